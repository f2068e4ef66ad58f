import Derived.Test.YtbkgncikjhibiaaGreatM7
set_option maxRecDepth 100000
set_option linter.unusedSimpArgs false
set_option linter.unusedVariables false
set_option linter.unusedSectionVars false
/- Part 8 of the texts that the law's proof leans on. -/
namespace Go.Proofs.YtbkgncikjhibiaaGreat
namespace Wid
def mx (f:Nat->Int) (a:Nat):Nat->Int
 | 0=>0
 | k+1=>max (mx f a k) (f (a+k))
theorem cn2 {f:Nat->Int}{a:Nat}:∀ {k j},a<=j->j<a+k->f j<=mx f a k
 | 0,j,h1,h2=>by omega
 | k+1,j,h1,h2=>by
  unfold mx;by_cases h:j=a+k
  ·subst h; omega
  ·have:=cn2 (f:=f) (a:=a) (k:=k) h1 (by omega); omega
theorem cn0 (f:Nat->Int) (a:Nat):∀ k,0<=mx f a k
 | 0=>xl _
 | k+1=>by have:=cn0 f a k; unfold mx; omega
theorem cn1 {f:Nat->Int}{a:Nat}{v:Int}(hv:0<=v):∀ {k},(∀ j,a<=j->j<a+k->f j<=v)->mx f a k<=v
 | 0,_=>hv
 | k+1,h=>by
  have h1:=cn1 (f:=f) (a:=a) hv (k:=k) fun j h1 h2=>h j h1 (by omega)
  have h2:=h (a+k) (by omega) (by omega);unfold mx;omega
def wid (f:Nat->Int) (n r i:Nat):Int:=mx f (i-r) (min n (i+r+1)-(i-r))
theorem aU2 {f:Nat->Int}{n r i j:Nat}(h1:i<=j+r) (h2:j<=i+r) (h3:j<n):f j<=wid f n r i:=cn2 (by omega) (by omega)
theorem bn3 (f:Nat->Int) (n r i:Nat):0<=wid f n r i:=cn0 _ _ _
theorem a92 {f:Nat->Int}{n r i:Nat}{v:Int}(hv:0<=v) (h:∀ j,i<=j+r->j<=i+r->j<n->f j<=v):wid f n r i<=v:=cn1 hv fun j h1 h2=>h j (by omega) (by omega) (by omega)
theorem bn4 {f g:Nat->Int}{n r s i:Nat}(hr:r<=s) (h:∀ j,j<n->f j<=g j):wid f n r i<=wid g n s i:=
 a92 (bn3 _ _ _ _) fun j h1 h2 h3=>Int.le_trans (h j h3) (aU2 (by omega) (by omega) h3)
theorem bh9 {f:Nat->Int}{n r i:Nat}{m:Int}(hm:0<=m) (h:∀ j,j<n->f j<=m):wid f n r i<=m:=a92 hm fun j _ _ h3=>h j h3
theorem a94 {f g:Nat->Int}{n r i:Nat}(h:∀ j,j<n->f j=g j):wid f n r i=wid g n r i:=
 uT (bn4 (lf _) fun j hj=>Int.le_of_eq (h j hj)) (bn4 (lf _) fun j hj=>Int.le_of_eq (h j hj).symm)
structure Qu where
 m:Nat
 q:Nat->Nat
structure Wp (f:Nat->Int) (Q:Qu) (lo nx:Nat) (c:Prop):Prop where
 srt:∀ i j,i<j->j<Q.m->Q.q i<Q.q j
 fal:∀ i j,i<j->j<Q.m->f (Q.q j)<f (Q.q i)
 lt:∀ i,i<Q.m->Q.q i<nx
 cov:∀ j,lo<=j->j<nx->(∃ i,i<Q.m/\j<=Q.q i/\f j<=f (Q.q i))\/(c/\f j<=f nx)
def Qu.pop (Q:Qu):Qu:=⟨Q.m-1,Q.q⟩
def Qu.front (Q:Qu):Qu:=⟨Q.m-1,fun i=>Q.q (i+1)⟩
def Qu.push (Q:Qu) (x:Nat):Qu:=⟨Q.m+1,fun i=>bif decide (i<Q.m) then Q.q i else x⟩
theorem Wp.nil (f:Nat->Int) (q:Nat->Nat):Wp f ⟨0,q⟩ 0 0 False:=⟨fun _ _ _ h=>absurd h (ln _),fun _ _ _ h=>absurd h (ln _),fun _ h=>absurd h (ln _),fun j _ h=>absurd h (ln _)⟩
theorem Wp.lo {f Q lo lo' nx c} (h:Wp f Q lo nx c) (hl:lo<=lo'):Wp f Q lo' nx c:=⟨h.srt,h.fal,h.lt,fun j h1 h2=>h.cov j (by omega) h2⟩
theorem Wp.open {f Q lo nx} (h:Wp f Q lo nx False):Wp f Q lo nx True:=⟨h.srt,h.fal,h.lt,fun j h1 h2=>(h.cov j h1 h2).elim .inl fun h=>h.1.elim⟩
theorem Wp.pop {f Q lo nx} (h:Wp f Q lo nx True) (hp:0<Q.m) (hl:f (Q.q (Q.m-1))<=f nx):Wp f Q.pop lo nx True:=by
 refine ⟨fun i j h1 h2=>?_,fun i j h1 h2=>?_,fun i hi=>?_,fun j h1 h2=>?_⟩
 ·have h2:j<Q.m-1:=h2; exact h.srt i j h1 (by omega)
 ·have h2:j<Q.m-1:=h2; exact h.fal i j h1 (by omega)
 ·have hi:i<Q.m-1:=hi; exact h.lt i (by omega)
 ·rcases h.cov j h1 h2 with ⟨i,h3,h4,h5⟩ | h3
  ·by_cases hi:i=Q.m-1
   ·subst hi; exact .inr ⟨trivial,by omega⟩
   ·exact .inl ⟨i,by show i<Q.m-1; omega,h4,h5⟩
  ·exact .inr h3
theorem Wp.push {f Q lo nx} (h:Wp f Q lo nx True) (hl:0<Q.m->f nx<f (Q.q (Q.m-1))):Wp f (Q.push nx) lo (nx+1) False:=by
 have old:∀ i,i<Q.m->(Q.push nx).q i=Q.q i:=fun i hi=>by show (bif decide (i<Q.m) then _ else _)=_; rw [lj hi]; rfl
 have new:(Q.push nx).q Q.m=nx:=by show (bif decide (Q.m<Q.m) then _ else _)=_; rw [lg (xr _)]; rfl
 have hm:(Q.push nx).m=Q.m+1:=rfl;refine ⟨fun i j h1 h2=>?_,fun i j h1 h2=>?_,fun i hi=>?_,fun j h1 h2=> .inl ?_⟩
 ·rw [hm] at h2;by_cases hj:j=Q.m
  ·rw [hj,new,old i (by omega)]; exact h.lt i (by omega)
  ·rw [old i (by omega),old j (by omega)]; exact h.srt i j h1 (by omega)
 ·rw [hm] at h2;by_cases hj:j=Q.m
  ·rw [hj,new,old i (by omega)];by_cases hi:i=Q.m-1
   ·rw [hi]; exact hl (by omega)
   ·have:=h.fal i (Q.m-1) (by omega) (by omega)
    have:=hl (by omega)
    omega
  ·rw [old i (by omega),old j (by omega)]; exact h.fal i j h1 (by omega)
 ·rw [hm] at hi;by_cases hj:i=Q.m
  ·rw [hj,new]; omega
  ·rw [old i (by omega)]; have:=h.lt i (by omega); omega
 ·by_cases hj:j=nx
  ·exact ⟨Q.m,by rw [hm]; omega,by rw [new]; omega,by rw [new,hj]; exact xl _⟩
  ·rcases h.cov j h1 (by omega) with ⟨i,h3,h4,h5⟩ | h3
   ·exact ⟨i,by rw [hm]; omega,by rw [old i h3]; exact h4,by rw [old i h3]; exact h5⟩
   ·exact ⟨Q.m,by rw [hm]; omega,by rw [new]; omega,by rw [new]; exact h3.2⟩
theorem Wp.front {f Q lo nx} (h:Wp f Q lo nx False) (hl:Q.q 0<lo):Wp f Q.front lo nx False:=by
 refine ⟨fun i j h1 h2=>?_,fun i j h1 h2=>?_,fun i hi=>?_,fun j h1 h2=>?_⟩
 ·have h2:j<Q.m-1:=h2; exact h.srt (i+1) (j+1) (by omega) (by omega)
 ·have h2:j<Q.m-1:=h2; exact h.fal (i+1) (j+1) (by omega) (by omega)
 ·have hi:i<Q.m-1:=hi; exact h.lt (i+1) (by omega)
 ·rcases h.cov j h1 h2 with ⟨i,h3,h4,h5⟩ | h3
  ·cases i with
   | zero=>omega
   | succ i=>exact .inl ⟨i,by show i<Q.m-1; omega,h4,h5⟩
  ·exact h3.1.elim
theorem Wp.some {f Q lo nx i} (h:Wp f Q lo nx False) (h1:lo<=i) (h2:i<nx):0<Q.m:=by
 rcases h.cov i h1 h2 with ⟨k,h3,_⟩ | h3
 ·omega
 ·exact h3.1.elim
theorem Wp.id {f Q lo nx c} (h:Wp f Q lo nx c):∀ i,i<Q.m->i<=Q.q i
 | 0,_=>lC _
 | i+1,hi=>by have:=h.srt i (i+1) (by omega) hi; have:=h.id i (by omega); omega
theorem Wp.le {f Q lo nx c} (h:Wp f Q lo nx c):Q.m<=nx:=by
 by_cases hm:Q.m=0
 ·omega
 ·have:=h.id (Q.m-1) (by omega); have:=h.lt (Q.m-1) (by omega); omega
theorem Wp.head {f Q n r i nx} (h:Wp f Q (i-r) nx False) (hi:i<n) (hnx:nx=min n (i+r+1)) (h0:i-r<=Q.q 0) (hf:∀ j,j<n->0<=f j):f (Q.q 0)=wid f n r i:=by
 have hp:=h.some (i:=i) (by omega) (by omega);have hlt:=h.lt 0 hp;refine uT (aU2 (by omega) (by omega) (by omega)) (a92 (hf _ (by omega)) fun j h1 h2 h3=>?_);rcases h.cov j (by omega) (by omega) with ⟨k,h4,h5,h6⟩ | h4
 ·by_cases hk:k=0
  ·subst hk; exact h6
  ·have:=h.fal 0 k (by omega) h4; omega
 ·exact h4.1.elim
end Wid
namespace Sx
open Go.RowKit
def co3:SV->Prop
 | .int ..=>True
 | .bool _=>True
 | .lit _=>True
 | .str _=>True
 | _=>False
theorem bU3 {w w' X X' E E' sv v} (hf:co3 sv) (h:R w X E sv v):R w' X' E' sv v:=by
 cases h<;>first | exact hf.elim | constructor
def bk9:SO->Prop
 | .row _ len n g _=>∀ i j,i<len->j<n->co3 (g i j)
 | _=>False
theorem Rep.hide {X:Nat->Prop}{w w':World}{row:SO}{E:Env}(h:Rep w (Fr.of fun _=>False) [row] E w') (hx:∀ b,X b->b<w.heap.size) (hf:bk9 row):Rep w (Fr.of X) [row] E w':=by
 refine ⟨h.below,fun b hb=>⟨hx b hb,id⟩,h.nm,h.dom,fun k e he=>?_,h.low,h.inj⟩;have hk:k=0:=by have:=h.dom k e he; simpa using this
 subst hk;have hok:=h.ok 0 e he;have hrow:[row].getD 0 SO.dead=row:=rfl;rw [hrow] at hok ⊢;cases row<;>simp only [bk9] at hf
 rename_i ver len n g T;cases e with
 | blk b=>exact hok
 | slc ver' v us=>
  obtain ⟨h1,xs,h2,h3⟩:=hok;exact ⟨h1,xs,h2,fun i j hi hj=>⟨(h3 i j hi hj).1,bU3 (hf i j hi hj) (h3 i j hi hj).2⟩⟩
def bT2 (f:FuncId) {γ:Type}(dec:List SV->Option γ) (args:γ->List SV) (pre:γ->Prop) (row:γ->SO):FSpec:=
 { f:=f,eff:=false,run:=fun l H nm=>match ax1 H l with
   | some l'=>match dec l' with
     | some g=>some ⟨ab0.leArgs l' (args g)/\Aq (pre g),big [.dead] [nm] (.osl 0 0),.new (bigO [.dead] [nm] 0 (row g))⟩
     | none=>none
   | none=>none }
theorem ba7 {P:Program}{specs:List FSpec}(hspecs:∀ s∈specs,aa7 P s) {eqs:List (TypeId×List CK)}(heqs:∀ t n,(t,n)∈eqs->EqOK P t n) (hm:P.follows .mixedOrders=true)
  {f:FuncId}{fn:Func}{body:Code}(hf:P.funcs[f]?=some fn) (hb:fn.body=some body) (_:al4 (effS specs) body=true) (hent:∀ args w,(callFunc f args).run P w = .ok (.enter f args) w)
  {γ:Type}{dec:List SV->Option γ}{args:γ->List SV}{pre:γ->Prop}{row:γ->SO}(A:γ->Ann) (k:γ->Nat) (hlen:∀ g,(args g).length<=fn.ntmps) (hflat:∀ g,bk9 (row g))
  (h:∀ g,pre g->vc P specs eqs fn.ntmps 0 false (A g) body (retN P fn (k g) (.osl 0 0) (row g)) ⟨ar4 0 (args g),[]⟩):aa7 P (bT2 f dec args pre row):=by
 refine ⟨hent,fun l H HF nm y he _ hrun=>?_,fun l H nm y hrun hp w0 X0 E w hrep hfree vals ha=>?_⟩
 ·simp only [bT2] at hrun ⊢;split at hrun
  case h_2=>cases hrun
  rename_i l' hl';rw [aN4 he hl'];exact hrun
 simp only [bT2] at hrun;split at hrun
 case h_2=>cases hrun
 rename_i l' hl';split at hrun
 case h_2=>cases hrun
 rename_i g hdec;cases hrun;obtain ⟨hle,⟨hpre⟩⟩:=hp;obtain ⟨hll,hle⟩:=al7 hle;obtain ⟨p1,p2⟩:=aA5 hrep hl';have hr:∀ i,i<l'.length->R w (fun _=>False) E0 (l'.getD i .any) (vals.getD i undef):=fun i hi=>p2 i _ (by omega) (ha.2 i (by omega))
 have hsz:=ha.1;have hxo:Xo (Fr.of fun _=>False) E0 []=fun _=>False:=by
  funext b;apply propext;exact ⟨fun hb=>hb.elim id (fun ⟨k,e,he,_⟩=>(nomatch he)),fun hb=>hb.elim⟩
 have hT:=al8 fn.ntmps vals (args g) w (fun _=>False) E0 (by omega) (hlen g) (fun i hi=>bw0 (fun _ hb=>hb) (hle i hi) (hr i (by omega)));refine am6 (w0:=w) (X0:=Fr.of fun _=>False) (G:=a95 P fn (k g) (.osl 0 0) (row g)) hf hb (aX8 (w0:=w) (X0:=Fr.of fun _=>False) hspecs heqs hm body (.inl rfl) (fun _=>rfl) (fun k hk=>absurd rfl hk) _ _ _ _ (h g hpre) (fun e s a w' hk hs=>?walk) _ w ?start) (fun s a w' hk _ hs=>?fin)
 case walk=>
  cases e with
  | normal=>exact ⟨s,hk,hs⟩
  | ret=>exact ⟨s,hk,hs⟩
  | exit id=>exact hk.elim
 case fin=>
   obtain ⟨E1,hrep1,htr⟩:=hs;unfold a95 at hk;split at hk
   case h_2=>exact hk.elim
   rename_i p l hres;obtain ⟨hp,hk⟩:=hk;obtain ⟨v,hv1,hv2⟩:=aj1 rfl hrep1 htr hres hp;split at hk
   case h_2=>exact hk.elim
   rename_i hal;have hal':(aa4 s.H [k g]).all ap8=true:=by simp only [aa4,xM,List.map_nil,lah,hal,List.all_nil,Bool.and_self]
   obtain ⟨p1,p2⟩:=hrep1.pick (ks:=[k g]) rfl hal';obtain ⟨p3,p4⟩:=p1.le (m:=0) hk.2 (fun k hk=>absurd rfl hk) (by simp [NmLe,uC (lC _)]);have hsv:=ah0 p4 (fun k ver v us he ver' hr=>av5 (p1.ok k _ he) hr) (ao1 hk.1 0) (bh4 p2 (hrep1.aX7 hal') hv2);have p5:=p3.hide (X:=Xo X0 E H) (fun b hb=>hrep.xlt b hb) (hflat g);refine ⟨v,hv1,v,rfl,Goes.bZ7 hrep hfree p5 ?_⟩;cases hsv with
   | osl he hv=>exact .osl he hv
   | oslOld he hl hv=>exact .oslOld he hl hv
 case start=>
  refine ⟨E0,⟨Bel.refl _ _,fun b hb=>hb.elim,fun k e he=>(nomatch he),fun k e he=>(nomatch he),fun k e he=>(nomatch he),fun k e b he=>(nomatch he),fun k k' e e' b he=>(nomatch he)⟩,hT.1,ay7.nil _ _ _,fun t ht=>?_⟩;rw [hxo];exact hT.2 t ht
end Sx
namespace Trp
open Go.RowKit Sx Num Aff Con Rga Wid
structure WiG where
 n:Nat
 f:Nat->Int
 r:Nat
def byS (n:Nat) (f:Nat->Int):SV:= .sl n 1 (fun j _=> .int .u8 (f j))
def byR (n:Nat) (f:Nat->Int):SO:= .row 0 n 1 (fun j _=> .int .u8 (f j)) 5
structure WiG.Ok (g:WiG):Prop where
 n:g.n<=1073741824
 r:g.r<=1073741824
 f:∀ j,j<g.n->0<=g.f j
def quR (Q:Qu):SO:= .row 0 Q.m 1 (fun j _=> .int .i64 (Q.q j)) 3
def wiO (g:WiG) (i:Nat):SO:=byR g.n (fun j=>bif decide (j<i) then wid g.f g.n g.r j else 0)
structure W1 where
 i:Nat
 nx:Nat
 Q:Qu
structure W2 where
 nx:Nat
 Q:Qu
def wiT (g:WiG) (i nx:Nat):List (Nat×SV):=[(0,byS g.n g.f),(1,.int .i64 g.r),(5,.osl 0 0),(6,.osl 1 0),(7,.int .i64 nx),(13,.int .i64 g.n),(14,.int .i64 i)]
def wiT8 (g:WiG) (i nx:Nat):List (Nat×SV):=[(0,byS g.n g.f),(1,.int .i64 g.r),(5,.osl 0 0),(6,.osl 1 0),(7,.int .i64 nx),(8,.int .i64 i),(13,.int .i64 g.n),(14,.int .i64 i)]
def wi1 (g:WiG):Inv:=⟨W1,fun s=>s.i<=g.n/\s.nx<=g.n/\s.nx<=s.i+g.r/\Wp g.f s.Q (s.i-g.r) s.nx False,fun s=>⟨wiT g s.i s.nx,[wiO g s.i,quR s.Q]⟩,fun s=>g.n-s.i⟩
def wi2 (g:WiG) (s:W1):Inv:=⟨W2,fun t=>s.i<g.n/\t.nx<=g.n/\t.nx<=s.i+g.r+1/\Wp g.f t.Q (s.i-g.r) t.nx False,fun t=>⟨wiT8 g s.i t.nx,[wiO g s.i,quR t.Q]⟩,fun t=>g.n-t.nx⟩
def wi3 (g:WiG) (s:W1) (t:W2):Inv:=⟨Qu,fun Q=>s.i<g.n/\t.nx<g.n/\t.nx<=s.i+g.r/\Wp g.f Q (s.i-g.r) t.nx True,fun Q=>⟨wiT8 g s.i t.nx,[wiO g s.i,quR Q]⟩,fun Q=>Q.m⟩
def wi4 (g:WiG) (s:W1):Inv:=⟨W2,fun t=>s.i<g.n/\t.nx=min g.n (s.i+g.r+1)/\Wp g.f t.Q (s.i-g.r) t.nx False,fun t=>⟨wiT8 g s.i t.nx,[wiO g s.i,quR t.Q]⟩,fun t=>t.Q.m⟩
def cg7:FSpec:=bT2 66 (γ:=WiG) (fun | [.sl n _ f,.int _ r]=>some ⟨n,fun j=>Sx.intOf (f j 0),r.toNat⟩ | _=>none) (fun g=>[byS g.n g.f,.int .i64 g.r]) WiG.Ok
 (fun g=>byR g.n (wid g.f g.n g.r))
theorem two {p q X B C:Prop}(h1:p->X) (h2:p->q->B) (h3:¬ (p/\q)->C):(p->X/\(q->B)/\(¬ q->C))/\(¬ p->C):=⟨fun hp=>⟨h1 hp,h2 hp,fun hq=>h3 fun h=>hq h.2⟩,fun hp=>h3 fun h=>hp h.1⟩
theorem ck8:aa7 Tw.prog cg7:=by
 refine ba7 (specs:=[]) (at7 trivial) (eqs:=[]) (fun _ _ h=>(xf h).elim) Aff.mixed Tw.func66 rfl (by kernel_rfl) (fun _ _=>by kernel_rfl) (fun g=>(⟨[(5,.nest (wi1 g) (fun s=>[(7,.nest (wi2 g s) (fun t=>[(9,.inv (wi3 g s t))])),(12,.inv (wi4 g s))]))],[(4,[.own 6 3 1]),(1000010,[.shrink 6]),(1000013,[.shrink 6])]⟩:Ann)) (fun g=>0) (fun g=>lN (by kernel_rfl)) (fun _ _ _ _ _=>trivial) ?_;rintro g hg;refine ad5 (B:=let T2:=fun p:Prop=>True/\True/\p;let T3:=fun p:Prop=>True/\True/\True/\p;let T4:=fun p:Prop=>True/\True/\True/\True/\p;let U:=Int.ofNat;let J:=Int.toNat;let K:=Br;let A:=Aq;let z22:=(0:Nat);let z21:=(1:Nat);let z19:=(↑g.r:Int);let z15:=(IntKind.u8=IntKind.u8);let z14:=(1:Int);let z13:=(↑g.n:Int);let z10:=(-9223372036854775808:Int);let z9:=(9223372036854775807:Int);let z8:=(0:Int);let z2:=(A (g.n=g.n)/\∀ i:Nat,i<g.n->True/\A z15/\A (g.f i=g.f i));let z1:=(IntKind.i64=IntKind.i64);let q1:=fun p:Int=>A z1/\A (p=p);let z5:=(q1 z13);let z4:=(q1 z19);T3 (A (z8<=z13/\z13<=z13/\(↑z21:Int)*z13<=(140737488355328:Int)/\z13<=z9)/\T4 (T2 ((∃ g_1:W1,A ((wi1 g).pre g_1)/\(z2/\z4/\T2 ((A z1/\A (z8=(↑g_1.nx:Int)))/\z5/\(A z1/\A (z8=(↑g_1.i:Int)))/\True))/\(A (z13.toNat=g.n)/\∀ i:Nat,i<g.n->True/\A z15/\A (z8=bif decide (i<g_1.i) then Wid.wid g.f g.n g.r i else z8))/\(A (z22=g_1.Q.m)/\∀ i:Nat,i<g_1.Q.m->True/\False)/\True)/\∀ g_1:W1,let z25:=(wi2 g g_1);let z24:=(wi4 g g_1);let z7:=(↑g_1.i:Int);let z3:=(q1 z7);let z0:=(A (g.n=g.n)/\∀ i:Nat,i<g.n->True/\A z15/\A ((bif decide (i<g_1.i) then Wid.wid g.f g.n g.r i else z8)=bif decide (i<g_1.i) then Wid.wid g.f g.n g.r i else z8)); (wi1 g).pre g_1->True/\K (decide (z7<z13)) (T2 ((∃ g_2:W2,A (z25.pre g_2)/\(z2/\z4/\T2 ((A z1/\A ((↑g_1.nx:Int)=(↑g_2.nx:Int)))/\z3/\z5/\z3/\True))/\z0/\(A (g_1.Q.m=g_2.Q.m)/\∀ i:Nat,i<g_2.Q.m->True/\A z1/\A ((↑(g_1.Q.q i):Int)=(↑(g_2.Q.q i):Int)))/\True)/\∀ g_2:W2,let z26:=(wi3 g g_1 g_2);let z11:=(↑g_2.nx:Int);let z20:=(z2/\z4/\T2 ((q1 z11)/\z3/\z5/\z3/\True));let z6:=(∃ g_3:W2,A (z24.pre g_3)/\(z2/\z4/\T2 ((A z1/\A (z11=(↑g_3.nx:Int)))/\z3/\z5/\z3/\True))/\z0/\(A (g_2.Q.m=g_3.Q.m)/\∀ i:Nat,i<g_3.Q.m->True/\A z1/\A ((↑(g_2.Q.q i):Int)=(↑(g_3.Q.q i):Int)))/\True); z25.pre g_2->T4 (True/\K (decide (z11<z13)) (T3 (A (z10<=z7+z19/\z7+z19<=z9)/\T2 (K (decide (z11<=z7+z19)) ((∃ g_3:Qu,A (z26.pre g_3)/\z20/\z0/\(A (g_2.Q.m=g_3.m)/\∀ i:Nat,i<g_3.m->True/\A z1/\A ((↑(g_2.Q.q i):Int)=(↑(g_3.q i):Int)))/\True)/\∀ g_3:Qu,let z16:=(g_3.m+z21<=(9223372036854775807:Nat)/\(g_3.m+z21)*(8:Nat)<=(140737488355328:Nat));let z12:=(↑g_3.m:Int);let z23:=(↑(g_3.q (z12-z14).toNat):Int); z26.pre g_3->T4 (K (decide (z8<z12)) (T4 (A (z10<=z12-z14/\z12-z14<=z9)/\A (z8<=z12-z14/\z12-z14<z12)/\A ((z12-z14).toNat<g_3.m)/\A (z8<=z23/\z23<z13)/\T3 (A (z8<=z11/\z11<z13)/\T3 (K (decide (g.f z23.toNat<=g.f z11.toNat)) (T3 (A (z10<=z12-z14/\z12-z14<=z9)/\A (z8<=U z22/\U z22<=z12-z14/\z12-z14<=U g_3.m/\U g_3.m<=z12)/\True/\∃ (g':Qu),A (z26.pre g')/\(z20/\z0/\(A ((z12-z14-U z22).toNat=g'.m)/\∀ i:Nat,i<g'.m->True/\A z1/\A ((↑(g_3.q i):Int)=(↑(g'.q i):Int)))/\True)/\A (z26.meas g'<z26.meas g_3))) (T3 (A z16/\T2 (A (z10<=z11+z14/\z11+z14<=z9)/\True/\∃ (g':W2),A (z25.pre g')/\((z2/\z4/\T2 ((A z1/\A (z11+z14=(↑g'.nx:Int)))/\z3/\z5/\z3/\True))/\z0/\(A (g_3.m+z21=g'.Q.m)/\∀ i:Nat,i<g'.Q.m->True/\A z1/\A ((bif decide (i<g_3.m) then (↑(g_3.q i):Int) else z11)=(↑(g'.Q.q i):Int)))/\True)/\A (z25.meas g'<z25.meas g_2)))))))) (T4 (A z16/\T2 (A (z10<=z11+z14/\z11+z14<=z9)/\True/\∃ (g':W2),A (z25.pre g')/\((z2/\z4/\T2 ((A z1/\A (z11+z14=(↑g'.nx:Int)))/\z3/\z5/\z3/\True))/\z0/\(A (g_3.m+z21=g'.Q.m)/\∀ i:Nat,i<g'.Q.m->True/\A z1/\A ((bif decide (i<g_3.m) then (↑(g_3.q i):Int) else z11)=(↑(g'.Q.q i):Int)))/\True)/\A (z25.meas g'<z25.meas g_2)))))) (z6/\∀ g_3:W2,let z17:=(↑(g_3.Q.q (J z8)):Int); z24.pre g_3->True/\A (z8<=z8/\z8<(↑g_3.Q.m:Int))/\A (J z8<g_3.Q.m)/\T2 (A (z10<=z7-z19/\z7-z19<=z9)/\True/\K (decide (z17<z7-z19)) (True/\A (z8<=U z21/\U z21<=U g_3.Q.m/\U g_3.Q.m<=U g_3.Q.m/\U g_3.Q.m<=(↑g_3.Q.m:Int))/\True/\∃ (g':W2),A (z24.pre g')/\((z2/\z4/\T2 ((A z1/\A ((↑g_3.nx:Int)=(↑g'.nx:Int)))/\z3/\z5/\z3/\True))/\z0/\(A ((U g_3.Q.m-U z21).toNat=g'.Q.m)/\∀ i:Nat,i<g'.Q.m->True/\A z1/\A ((↑(g_3.Q.q (z22+z21+i)):Int)=(↑(g'.Q.q i):Int)))/\True)/\A (z24.meas g'<z24.meas g_3)) (T4 (A (z8<=z8/\z8<(↑g_3.Q.m:Int))/\A (J z8<g_3.Q.m)/\A (z8<=z17/\z17<z13)/\True/\A (z8<=z7/\z7<z13)/\A (z7.toNat<g.n)/\A (z10<=z7+z14/\z7+z14<=z9)/\True/\∃ (g':W1),A ((wi1 g).pre g')/\((z2/\z4/\T2 ((A z1/\A ((↑g_3.nx:Int)=(↑g'.nx:Int)))/\z5/\(A z1/\A (z7+z14=(↑g'.i:Int)))/\True))/\(A (g.n=g.n)/\∀ i:Nat,i<g.n->True/\A z15/\A ((bif decide (i=z7.toNat/\z22<=z22/\z22<z22+z21) then g.f z17.toNat else bif decide (i<g_1.i) then Wid.wid g.f g.n g.r i else z8)=bif decide (i<g'.i) then Wid.wid g.f g.n g.r i else z8))/\(A (g_3.Q.m=g'.Q.m)/\∀ i:Nat,i<g'.Q.m->True/\A z1/\A ((↑(g_3.Q.q i):Int)=(↑(g'.Q.q i):Int)))/\True)/\A ((wi1 g).meas g'<(wi1 g).meas g_1)))))))) (True/\z6/\∀ g_3:W2,let z18:=(↑(g_3.Q.q (J z8)):Int); z24.pre g_3->True/\A (z8<=z8/\z8<(↑g_3.Q.m:Int))/\A (J z8<g_3.Q.m)/\T2 (A (z10<=z7-z19/\z7-z19<=z9)/\True/\K (decide (z18<z7-z19)) (True/\A (z8<=U z21/\U z21<=U g_3.Q.m/\U g_3.Q.m<=U g_3.Q.m/\U g_3.Q.m<=(↑g_3.Q.m:Int))/\True/\∃ (g':W2),A (z24.pre g')/\((z2/\z4/\T2 ((A z1/\A ((↑g_3.nx:Int)=(↑g'.nx:Int)))/\z3/\z5/\z3/\True))/\z0/\(A ((U g_3.Q.m-U z21).toNat=g'.Q.m)/\∀ i:Nat,i<g'.Q.m->True/\A z1/\A ((↑(g_3.Q.q (z22+z21+i)):Int)=(↑(g'.Q.q i):Int)))/\True)/\A (z24.meas g'<z24.meas g_3)) (T4 (A (z8<=z8/\z8<(↑g_3.Q.m:Int))/\A (J z8<g_3.Q.m)/\A (z8<=z18/\z18<z13)/\True/\A (z8<=z7/\z7<z13)/\A (z7.toNat<g.n)/\A (z10<=z7+z14/\z7+z14<=z9)/\True/\∃ (g':W1),A ((wi1 g).pre g')/\((z2/\z4/\T2 ((A z1/\A ((↑g_3.nx:Int)=(↑g'.nx:Int)))/\z5/\(A z1/\A (z7+z14=(↑g'.i:Int)))/\True))/\(A (g.n=g.n)/\∀ i:Nat,i<g.n->True/\A z15/\A ((bif decide (i=z7.toNat/\z22<=z22/\z22<z22+z21) then g.f z18.toNat else bif decide (i<g_1.i) then Wid.wid g.f g.n g.r i else z8)=bif decide (i<g'.i) then Wid.wid g.f g.n g.r i else z8))/\(A (g_3.Q.m=g'.Q.m)/\∀ i:Nat,i<g'.Q.m->True/\A z1/\A ((↑(g_3.Q.q i):Int)=(↑(g'.Q.q i):Int)))/\True)/\A ((wi1 g).meas g'<(wi1 g).meas g_1)))))))) (T3 ((True/\True)/\(A (g.n=g.n)/\∀ i:Nat,i<g.n->True/\A z15/\A ((bif decide (i<g_1.i) then Wid.wid g.f g.n g.r i else z8)=Wid.wid g.f g.n g.r i))/\True)))))) ?_;simp only [cln,lF,lS,xg];have hn:=hg.n;have hr:=hg.r;have hf:=hg.f;refine ⟨by omega,⟨⟨0,0,⟨0,fun _=>0⟩⟩,⟨lC _,lC _,lC _,by rw [Nat.zero_sub]; exact Wp.nil _ _⟩,⟨rfl,rfl⟩,fun i _=>rfl,rfl,fun i hi=>absurd hi (ln _)⟩,fun s hs=>?_⟩;obtain ⟨hi,hnx,hnr,hq⟩:=hs;refine ⟨fun hlt=>?_,fun hge=>fun i hi'=>?_⟩
 ·have hin:s.i<g.n:=by omega
  refine ⟨⟨⟨s.nx,s.Q⟩,⟨hin,hnx,xX hnr,hq⟩,rfl,rfl,fun _ _=>rfl⟩,fun t ht=>?_⟩
  ·obtain ⟨hi',hnx,hnr,hq⟩:=ht;have two5:∀ {p q X1 X2 X3 X4 X5 B C:Prop},(p->X1/\X2/\X3/\X4/\X5)->(p->q->B)->(¬ (p/\q)->C)->(p->X1/\X2/\X3/\X4/\X5/\(q->B)/\(¬ q->C))/\(¬ p->C):=fun h1 h2 h3=>⟨fun hp=>⟨(h1 hp).1,(h1 hp).2.1,(h1 hp).2.2.1,(h1 hp).2.2.2.1,(h1 hp).2.2.2.2,h2 hp,fun hq=>h3 fun h=>hq h.2⟩,fun hp=>h3 fun h=>hp h.1⟩
   refine two (fun h1=>by omega) (fun h1 h2=>⟨⟨t.Q,⟨hin,by omega,by omega,hq.open⟩,rfl,fun _ _=>rfl⟩,fun Q hQ=>?_⟩) (fun hex=>?_)
   ·obtain ⟨_,hnx',hnr',hp⟩:=hQ;have hle:=hp.le;have e1:((Q.m:Int)-1).toNat=Q.m-1:=by omega
    rw [e1];have hlast:0<Q.m->Q.q (Q.m-1)<t.nx:=fun h=>hp.lt _ (by omega)
    refine two5 (fun h1=>?_) (fun h1 h2=>?_) (fun hex=>?_)
    ·have:=hlast (by omega)
     omega
    ·refine ⟨by omega,by omega,Q.pop,⟨hin,hnx',hnr',hp.pop (by omega) h2⟩,⟨by show _=Q.m-1; omega,fun _ _=>rfl⟩,by show Q.m-1<Q.m; omega⟩
    ·refine ⟨by omega,by omega,⟨t.nx+1,Q.push t.nx⟩,⟨hin,hnx',Nat.succ_le_succ hnr',hp.push fun h=>?_⟩,⟨rfl,rfl,fun i _=>?_⟩,by show g.n-(t.nx+1)<g.n-t.nx; omega⟩
     ·have:¬ g.f (Q.q (Q.m-1))<=g.f t.nx:=fun hc=>hex ⟨by omega,hc⟩
      omega
     ·show _=(((bif decide (i<Q.m) then Q.q i else t.nx):Nat):Int);cases decide (i<Q.m)<;>rfl
   ·have enx:t.nx=min g.n (s.i+g.r+1):=by omega
    refine ⟨⟨⟨t.nx,t.Q⟩,⟨hin,enx,hq⟩,rfl,rfl,fun _ _=>rfl⟩,fun u hu=>?_⟩;obtain ⟨_,enx,hq⟩:=hu;have hpos:=hq.some (i:=s.i) (by omega) (by omega);have hle:=hq.le;have hhd:=hq.lt 0 hpos;have e0:Int.toNat 0=0:=rfl;rw [e0];refine ⟨by omega,hpos,by omega,fun h1=>?_,fun h1=>?_⟩
    ·exact ⟨by omega,⟨u.nx,u.Q.front⟩,⟨hin,enx,hq.front (by omega)⟩,⟨rfl,by show _=u.Q.m-1; omega,fun i _=>by rw [Nat.add_comm 1 i]; rfl⟩,by show u.Q.m-1<u.Q.m; omega⟩
    ·have hw:=hq.head hin enx (by omega) hf;refine ⟨by omega,hpos,by omega,by omega,hin,by omega,⟨s.i+1,u.nx,u.Q⟩,⟨hin,by show u.nx<=_; omega,by show u.nx<=s.i+1+_; omega,hq.lo (by show _<=s.i+1-g.r; omega)⟩,⟨⟨rfl,rfl⟩,fun i hi'=>?_,rfl,fun _ _=>rfl⟩,by show g.n-(s.i+1)<g.n-s.i; omega⟩;show _=bif decide (i<s.i+1) then _ else _
     rw [hw];by_cases h:i=s.i
     ·subst h;rw [lj ⟨rfl,lf _,uq⟩,lj (xB _)];rfl
     ·rw [lg (fun hc=>h hc.1),show decide (i<s.i+1)=decide (i<s.i) from xS.2 (by omega)];rfl
 ·rw [lj (show i<s.i by omega)];rfl
end Trp
namespace Tsp
open Go.RowKit Sx Num Aff Con Rga Gat Gar Wid Trp
structure SpG where
 w:Nat
 h:Nat
 c:Nat->Vec
 ink:Nat
 r:Nat
def al1 (g:SpG) (y:Nat):Nat->Int:=wid (fun x=>g.c (y*g.w+x) g.ink) g.w g.r
def bv1 (g:SpG) (x:Nat):Nat->Int:=wid (fun y=>al1 g y x) g.h g.r
def spr (g:SpG) (j:Nat):Int:=bv1 g (j % g.w) (j / g.w)
structure SpG.Ok (g:SpG):Prop where
 w:1<=g.w/\g.w<=4096
 h:1<=g.h/\g.h<=4096
 ink:g.ink<8
 r:g.r<=1073741824
 c:∀ i,i<g.w*g.h->0<=g.c i g.ink
def clR (w h:Nat) (c:Nat->Vec):SO:= .row 0 (w*h) 8 (fun i j=> .int .u8 (c i j)) 26
def byR (n:Nat) (f:Nat->Int):SO:=Trp.byR n f
structure SpS where
 y:Nat
 R:Nat->Int
def spH (g:SpG) (o R C:Nat->Int):List SO:=[clR g.w g.h g.c,byR (g.w*g.h) o,byR g.w R,byR g.h C]
def spT (g:SpG):List (Nat×SV):=[(0,.osl 0 0),(1,.int .i64 g.w),(2,.int .i64 g.h),(3,.int .i64 g.ink),(4,.int .i64 g.r),(11,.osl 1 0),(12,.osl 2 0),(13,.osl 3 0)]
def spT2 (g:SpG):List (Nat×SV):=[(0,.osl 0 0),(1,.int .i64 g.w),(2,.int .i64 g.h),(3,.int .i64 g.ink),(4,.int .i64 g.r),(11,.osl 1 0),(13,.osl 3 0)]
def zer:Nat->Int:=fun _=>0
def o1 (g:SpG) (y:Nat) (j:Nat):Int:=bif decide (j / g.w<y) then al1 g (j / g.w) (j % g.w) else 0
def o2 (g:SpG) (x y:Nat) (j:Nat):Int:=bif decide (j % g.w<x\/j % g.w=x/\j / g.w<y) then bv1 g (j % g.w) (j / g.w) else al1 g (j / g.w) (j % g.w)
def sp1 (g:SpG):Inv:=⟨SpS,fun s=>s.y<=g.h,fun s=>⟨spT g++[(27,.int .i64 g.h),(28,.int .i64 s.y)],spH g (o1 g s.y) s.R zer⟩,fun s=>g.h-s.y⟩
def sp2 (g:SpG) (s:SpS):Inv:=⟨Nat,fun x=>s.y<g.h/\x<=g.w,fun x=>⟨spT g++[(27,.int .i64 g.h),(28,.int .i64 s.y),(14,.int .i64 s.y),(32,.int .i64 g.w),(33,.int .i64 x)],
 spH g (o1 g s.y) (fun j=>bif decide (j<x) then g.c (s.y*g.w+j) g.ink else s.R j) zer⟩,fun x=>g.w-x⟩
def sp3 (g:SpG):Inv:=⟨SpS,fun s=>s.y<=g.w,fun s=>⟨spT2 g++[(60,.int .i64 g.w),(61,.int .i64 s.y)],[clR g.w g.h g.c,byR (g.w*g.h) (o2 g s.y 0),.dead,byR g.h s.R]⟩,fun s=>g.w-s.y⟩
def sp4 (g:SpG) (s:SpS):Inv:=⟨Nat,fun y=>s.y<g.w/\y<=g.h,fun y=>⟨spT2 g++[(60,.int .i64 g.w),(61,.int .i64 s.y),(16,.int .i64 s.y),(65,.int .i64 g.h),(66,.int .i64 y)],
 [clR g.w g.h g.c,byR (g.w*g.h) (o2 g s.y 0),.dead,byR g.h (fun j=>bif decide (j<y) then al1 g j s.y else s.R j)]⟩,fun y=>g.h-y⟩
def sp5 (g:SpG) (s:SpS):Inv:=⟨Nat,fun y=>s.y<g.w/\y<=g.h,fun y=>⟨spT2 g++[(60,.int .i64 g.w),(61,.int .i64 s.y),(16,.int .i64 s.y),(83,.osl 4 0),(84,.int .i64 g.h),(85,.int .i64 y)],
 [clR g.w g.h g.c,byR (g.w*g.h) (o2 g s.y y),.dead,byR g.h (fun j=>al1 g j s.y),byR g.h (bv1 g s.y)]⟩,fun y=>g.h-y⟩
theorem aC5 {w y x:Nat}(hx:x<w):(y*w+x) / w=y:=by rw [xI,Nat.mul_add_div (by omega),Nat.div_eq_of_lt hx,lU]
theorem aI1 {w y x:Nat}(hx:x<w):(y*w+x) % w=x:=by rw [xI,Nat.mul_add_mod,uJ hx]
theorem bM0 {w:Nat}(hw:1<=w) (i:Nat):∃ a b,b<w/\i=a*w+b:=⟨i / w,i % w,xO _ hw,by rw [xI]; exact (Nat.div_add_mod i w).symm⟩
theorem bU7 {w a y:Nat}(h:a<y):a*w+w<=y*w:=by
 have:=lk w (show a+1<=y from h)
 rwa [lO,uF] at this
theorem bL9 {w a b y:Nat}(hb:b<w):(y*w<=a*w+b/\a*w+b<y*w+w)<->a=y:=by
 rcases xL a y with h | h | h
 ·have:=bU7 (w:=w) h; exact ⟨fun hc=>by omega,fun hc=>by omega⟩
 ·subst h; exact ⟨fun _=>rfl,fun _=>by omega⟩
 ·have:=bU7 (w:=w) h; exact ⟨fun hc=>by omega,fun hc=>by omega⟩
theorem cc7 {w a b y x:Nat}(hb:b<w) (hx:x<w):a*w+b=y*w+x<->a=y/\b=x:=by
 constructor
 ·intro h;obtain rfl:a=y:=(bL9 hb).1 (by omega)
  exact ⟨rfl,by omega⟩
 ·rintro ⟨rfl,rfl⟩; rfl
theorem bU8 {w h a b:Nat}(hb:b<w) (ha:a<h):a*w+b<w*h:=by
 have:=bU7 (w:=w) ha
 rw [xI w h];omega
theorem b19 {w h a b:Nat}(h1:a*w+b<w*h):a<h:=by
 rcases ug a h with h2 | h2
 ·exact h2
 ·have:=lk w h2
  rw [xI w h] at h1;omega
theorem b29 {p:Prop}{inst:Decidable p}{α:Type}{a b c:α}(h1:p->a=c) (h2:¬ p->b=c):(bif @decide p inst then a else b)=c:=by
 by_cases h:p
 ·rw [lj h]; exact h1 h
 ·rw [lg h]; exact h2 h
def cg9:FSpec:=af2 41 [.arg 0] (γ:=SpG) (fun l os=>match l,os with
  | [_,.int _ w,.int _ h,.int _ i,.int _ r],[.row _ _ _ f _]=>some ⟨w.toNat,h.toNat,fun i j=>Sx.intOf (f i j),i.toNat,r.toNat⟩
  | _,_=>none)
 (fun g=>[.osl 0 0,.int .i64 g.w,.int .i64 g.h,.int .i64 g.ink,.int .i64 g.r]) (fun g=>[clR g.w g.h g.c]) SpG.Ok (fun g=>byS (g.w*g.h) (spr g)) (fun g=>[clR g.w g.h g.c])
theorem cl0:aa7 Tw.prog cg9:=by
 refine smW (specs:=[cg7]) (⟨ck8,trivial⟩) Tw.func41 (fun g=>(⟨[(4,.nest (sp1 g) (fun s=>[(7,.inv (sp2 g s))])),(14,.nest (sp3 g) (fun s=>[(17,.inv (sp4 g s)),(22,.inv (sp5 g s))]))],[]⟩:Ann)) false ?_;rintro g hg;refine ad5 (B:=let T2:=fun p:Prop=>True/\True/\p;let T3:=fun p:Prop=>True/\True/\True/\p;let T5:=fun p:Prop=>True/\True/\True/\True/\True/\p;let J:=Int.ofNat;let K:=Br;let A:=Aq;let z35:=(g.w*g.h);let z34:=(140737488355328:Int);let z31:=(1:Nat);let z30:=(↑g.ink:Int);let z29:=(g.h=g.h);let z27:=(1:Int);let z26:=(↑g.r:Int);let z23:=(0:Int);let z21:=(↑g.h:Int);let z16:=(0:Nat);let z15:=(↑z35:Int);let z12:=(g.w*g.h=g.w*g.h);let z10:=(-9223372036854775808:Int);let z9:=(↑g.w:Int);let z8:=(9223372036854775807:Int);let z4:=(IntKind.u8=IntKind.u8);let q4:=fun p:Int=>A z4/\A (p=p);let z14:=(A z29/\∀ i:Nat,i<g.h->True/\q4 (zer i));let z1:=(IntKind.i64=IntKind.i64);let q1:=fun p:Int=>A z1/\A (p=p);let z33:=(A z1/\A (z26=(↑z26.toNat:Int)));let z6:=(q1 z26);let z5:=(q1 z30);let z3:=(q1 z21);let z2:=(q1 z9);let z0:=(A z12/\∀ i:Nat,i<g.w*g.h->(chp True (fun j:Nat=>q4 (g.c i j)) 7)/\q4 (g.c i (7:Nat)));T3 (A (z23<=z15/\z15<=z15/\(↑z31:Int)*z15<=z34/\z15<=z8)/\T2 (A (z23<=z9/\z9<=z9/\(↑z31:Int)*z9<=z34/\z9<=z8)/\True/\A (z23<=z21/\z21<=z21/\(↑z31:Int)*z21<=z34/\z21<=z8)/\T3 (True/\(∃ g_1:SpS,A ((sp1 g).pre g_1)/\True/\(True/\z2/\z3/\z5/\z6/\T3 (z3/\(A z1/\A (z23=(↑g_1.y:Int)))/\True))/\z0/\(A (z15.toNat=g.w*g.h)/\∀ i:Nat,i<g.w*g.h->True/\A z4/\A (z23=o1 g g_1.y i))/\(A (z9.toNat=g.w)/\∀ i:Nat,i<g.w->True/\A z4/\A (z23=g_1.R i))/\(A (z21.toNat=g.h)/\∀ i:Nat,i<g.h->True/\A z4/\A (z23=zer i))/\True)/\∀ g_1:SpS,let z32:=(g_1.y*g.w);let z22:=(A z12/\∀ i:Nat,i<g.w*g.h->True/\q4 (o1 g g_1.y i));let z11:=(↑g_1.y:Int);let z24:=(q1 z11); (sp1 g).pre g_1->True/\K (decide (z11<z21)) (T5 ((∃ g_2:Nat,A ((sp2 g g_1).pre g_2)/\True/\(True/\z2/\z3/\z5/\z6/\T3 (z3/\z24/\z24/\z2/\(A z1/\A (z23=(↑g_2:Int)))/\True))/\z0/\z22/\(A (g.w=g.w)/\∀ i:Nat,i<g.w->True/\A z4/\A (g_1.R i=bif decide (i<g_2) then g.c (g_1.y*g.w+i) g.ink else g_1.R i))/\z14/\True)/\∀ g_2:Nat,let z25:=(fun (j:Nat)=>bif decide (j<g_2) then g.c (g_1.y*g.w+j) g.ink else g_1.R j);let z19:=(↑g_2:Int); (sp2 g g_1).pre g_2->True/\K (decide (z19<z9)) (T5 (T2 (A (z10<=z11*z9/\z11*z9<=z8)/\True/\A (z10<=z11*z9+z19/\z11*z9+z19<=z8)/\True/\A (z23<=z11*z9+z19/\z11*z9+z19<z15)/\A (z23<=z30/\z30<(↑(8:Nat):Int))/\K (decide (z16+z30.toNat*z31+z31<=(8:Nat))) (A ((z11*z9+z19).toNat<g.w*g.h)) False/\A (z23<=z19/\z19<z9)/\A (z19.toNat<g.w)/\A (z10<=z19+z27/\z19+z27<=z8)/\True/\∃ (g':Nat),A ((sp2 g g_1).pre g')/\True/\((True/\z2/\z3/\z5/\z6/\T3 (z3/\z24/\z24/\z2/\(A z1/\A (z19+z27=(↑g':Int)))/\True))/\z0/\z22/\(A (g.w=g.w)/\∀ i:Nat,i<g.w->True/\A z4/\A ((bif decide (i=z19.toNat/\z16<=z16/\z16<z16+z31) then g.c (z11*z9+z19).toNat (z16+z30.toNat*z31) else bif decide (i<g_2) then g.c (g_1.y*g.w+i) g.ink else g_1.R i)=bif decide (i<g') then g.c (g_1.y*g.w+i) g.ink else g_1.R i))/\z14/\True)/\A ((sp2 g g_1).meas g'<(sp2 g g_1).meas g_2)))) (T3 (A (z10<=z11*z9/\z11*z9<=z8)/\A (z23<=J z32/\J z32<=J z35/\J z35<=J z35/\J z35<=z15)/\T2 ((((A (g.w=g.w)/\∀ i:Nat,i<g.w->True/\A z4/\A ((bif decide (i<g_2) then g.c (g_1.y*g.w+i) g.ink else g_1.R i)=bif decide (i<g_2) then g.c (g_1.y*g.w+i) g.ink else g_1.R i))/\z33/\True)/\A (WiG.mk g.w z25 z26.toNat).Ok)/\True/\A (z10<=z11+z27/\z11+z27<=z8)/\True/\∃ (g':SpS),A ((sp1 g).pre g')/\True/\((True/\z2/\z3/\z5/\z6/\T3 (z3/\(A z1/\A (z11+z27=(↑g'.y:Int)))/\True))/\z0/\(A z12/\∀ i:Nat,i<g.w*g.h->True/\A z4/\A ((bif decide ((J z32).toNat<=i/\i<(J z32).toNat+g.w.min (J z35-J z32).toNat) then Wid.wid z25 g.w z26.toNat (i-(J z32).toNat) else o1 g g_1.y i)=o1 g g'.y i))/\(A (g.w=g.w)/\∀ i:Nat,i<g.w->True/\A z4/\A ((bif decide (i<g_2) then g.c (g_1.y*g.w+i) g.ink else g_1.R i)=g'.R i))/\z14/\True)/\A ((sp1 g).meas g'<(sp1 g).meas g_1)))))) (T2 ((∃ g_2:SpS,A ((sp3 g).pre g_2)/\True/\(True/\z2/\z3/\z5/\z6/\T2 (z2/\(A z1/\A (z23=(↑g_2.y:Int)))/\True))/\z0/\(A z12/\∀ i:Nat,i<g.w*g.h->True/\A z4/\A (o1 g g_1.y i=o2 g g_2.y z16 i))/\True/\(A z29/\∀ i:Nat,i<g.h->True/\A z4/\A (zer i=g_2.R i))/\True)/\∀ g_2:SpS,let z20:=(A z12/\∀ i:Nat,i<g.w*g.h->True/\q4 (o2 g g_2.y z16 i));let z13:=(↑g_2.y:Int);let z7:=(q1 z13); (sp3 g).pre g_2->True/\K (decide (z13<z9)) (T5 ((∃ g_3:Nat,A ((sp4 g g_2).pre g_3)/\True/\(True/\z2/\z3/\z5/\z6/\T2 (z2/\z7/\z7/\z3/\(A z1/\A (z23=(↑g_3:Int)))/\True))/\z0/\z20/\True/\(A z29/\∀ i:Nat,i<g.h->True/\A z4/\A (g_2.R i=bif decide (i<g_3) then al1 g i g_2.y else g_2.R i))/\True)/\∀ g_3:Nat,let z28:=(fun (j:Nat)=>bif decide (j<g_3) then al1 g j g_2.y else g_2.R j);let z17:=(↑g_3:Int); (sp4 g g_2).pre g_3->True/\K (decide (z17<z21)) (T5 (T2 (A (z10<=z17*z9/\z17*z9<=z8)/\True/\A (z10<=z17*z9+z13/\z17*z9+z13<=z8)/\A (z23<=z17*z9+z13/\z17*z9+z13<z15)/\A ((z17*z9+z13).toNat<g.w*g.h)/\A (z23<=z17/\z17<z21)/\A (z17.toNat<g.h)/\A (z10<=z17+z27/\z17+z27<=z8)/\True/\∃ (g':Nat),A ((sp4 g g_2).pre g')/\True/\((True/\z2/\z3/\z5/\z6/\T2 (z2/\z7/\z7/\z3/\(A z1/\A (z17+z27=(↑g':Int)))/\True))/\z0/\z20/\True/\(A z29/\∀ i:Nat,i<g.h->True/\A z4/\A ((bif decide (i=z17.toNat/\z16<=z16/\z16<z16+z31) then o2 g g_2.y z16 (z17*z9+z13).toNat else bif decide (i<g_3) then al1 g i g_2.y else g_2.R i)=bif decide (i<g') then al1 g i g_2.y else g_2.R i))/\True)/\A ((sp4 g g_2).meas g'<(sp4 g g_2).meas g_3)))) (T2 ((((A z29/\∀ i:Nat,i<g.h->True/\A z4/\A ((bif decide (i<g_3) then al1 g i g_2.y else g_2.R i)=bif decide (i<g_3) then al1 g i g_2.y else g_2.R i))/\z33/\True)/\A (WiG.mk g.h z28 z26.toNat).Ok)/\T2 ((∃ g_4:Nat,A ((sp5 g g_2).pre g_4)/\True/\(True/\z2/\z3/\z5/\z6/\T2 (z2/\z7/\z7/\True/\z3/\(A z1/\A (z23=(↑g_4:Int)))/\True))/\z0/\(A z12/\∀ i:Nat,i<g.w*g.h->True/\A z4/\A (o2 g g_2.y z16 i=o2 g g_2.y g_4 i))/\True/\(A z29/\∀ i:Nat,i<g.h->True/\A z4/\A ((bif decide (i<g_3) then al1 g i g_2.y else g_2.R i)=al1 g i g_2.y))/\(A z29/\∀ i:Nat,i<g.h->True/\A z4/\A (Wid.wid z28 g.h z26.toNat i=bv1 g g_2.y i))/\True)/\∀ g_4:Nat,let z18:=(↑g_4:Int); (sp5 g g_2).pre g_4->True/\K (decide (z18<z21)) (True/\A (z23<=z18/\z18<z21)/\A (z18.toNat<g.h)/\T5 (A (z10<=z18*z9/\z18*z9<=z8)/\True/\A (z10<=z18*z9+z13/\z18*z9+z13<=z8)/\True/\A (z23<=z18*z9+z13/\z18*z9+z13<z15)/\A ((z18*z9+z13).toNat<g.w*g.h)/\A (z10<=z18+z27/\z18+z27<=z8)/\True/\∃ (g':Nat),A ((sp5 g g_2).pre g')/\True/\((True/\z2/\z3/\z5/\z6/\T2 (z2/\z7/\z7/\True/\z3/\(A z1/\A (z18+z27=(↑g':Int)))/\True))/\z0/\(A z12/\∀ i:Nat,i<g.w*g.h->True/\A z4/\A ((bif decide (i=(z18*z9+z13).toNat/\z16<=z16/\z16<z16+z31) then bv1 g g_2.y z18.toNat else o2 g g_2.y g_4 i)=o2 g g_2.y g' i))/\True/\(A z29/\∀ i:Nat,i<g.h->True/\q4 (al1 g i g_2.y))/\(A z29/\∀ i:Nat,i<g.h->True/\q4 (bv1 g g_2.y i))/\True)/\A ((sp5 g g_2).meas g'<(sp5 g g_2).meas g_4))) (A (z10<=z13+z27/\z13+z27<=z8)/\True/\∃ (g':SpS),A ((sp3 g).pre g')/\True/\((True/\z2/\z3/\z5/\z6/\T2 (z2/\(A z1/\A (z13+z27=(↑g'.y:Int)))/\True))/\z0/\(A z12/\∀ i:Nat,i<g.w*g.h->True/\A z4/\A (o2 g g_2.y g_4 i=o2 g g'.y z16 i))/\True/\(A z29/\∀ i:Nat,i<g.h->True/\A z4/\A (al1 g i g_2.y=g'.R i))/\True)/\A ((sp3 g).meas g'<(sp3 g).meas g_2))))))) (T3 (True/\((A z12/\∀ i:Nat,i<g.w*g.h->True/\A z4/\A (o2 g g_2.y z16 i=spr g i))/\True)/\z0/\True)))))))) ?_;simp only [chp];simp only [cln,lF,lS,xg];have hw:=hg.w;have hh:=hg.h;have hi:=hg.ink;have hWH:g.w*g.h<=4096*4096:=uI hw.2 hh.2;have c0:∀ a:Nat,(a:Int)*(g.w:Int)=((a*g.w:Nat):Int):=fun a=>(Int.natCast_mul a g.w).symm
 have c1:∀ a b:Nat,((a*g.w:Nat):Int)+(b:Int)=((a*g.w+b:Nat):Int):=fun a b=>(Int.natCast_add _ _).symm
 have hr:=hg.r;simp only [c0,c1,lF];refine ⟨by omega,by omega,by omega,⟨⟨0,zer⟩,lC _,rfl,fun i _=>?_,fun _ _=>rfl,fun _ _=>rfl⟩,fun s hs=>⟨fun hlt=>⟨⟨0,⟨by omega,lC _⟩,rfl,fun _ _=>rfl⟩,fun x hx=>⟨fun hx1=>?_,fun hx1=>?_⟩⟩,fun hge=>⟨⟨⟨0,zer⟩,lC _,rfl,fun i hi=>?_,fun _ _=>rfl⟩,fun s3 hs3=>⟨fun hlt=>⟨⟨0,⟨by omega,lC _⟩,rfl,fun _ _=>rfl⟩,fun y hy=>⟨fun hy1=>?_,fun hy1=>?_⟩⟩,fun hge=>fun i hi=>?_⟩⟩⟩⟩
 ·show 0=bif decide (i / g.w<0) then _ else _
  rw [lg (ln _)];rfl
 ·obtain ⟨hy,hx⟩:=hx;have hx:x<g.w:=by omega
  have hin:=bU8 hx hy;refine ⟨by omega,by omega,by omega,by omega,⟨fun _=>hin,fun h=>h (by omega)⟩,by omega,hx,by omega,x+1,⟨hy,hx⟩,⟨rfl,fun i hi=>?_⟩,by show g.w-(x+1)<g.w-x; omega⟩;by_cases h:i=x
  ·subst h;rw [lj ⟨rfl,lf _,uq⟩,lj (xB _)];rfl
  ·rw [lg (fun hc=>h hc.1),show decide (i<x+1)=decide (i<x) from xS.2 (by omega)];rfl
 ·obtain ⟨hy,hx⟩:=hx;obtain rfl:x=g.w:=by omega
  have hrow:=bU7 (w:=g.w) hy;rw [xI g.h g.w] at hrow;have ef:∀ j,j<g.w->(bif decide (j<g.w) then g.c (s.y*g.w+j) g.ink else s.R j)=g.c (s.y*g.w+j) g.ink:=fun j hj=>by rw [lj hj]; rfl
  refine ⟨by omega,by omega,⟨by show g.w<=_; omega,hr,fun j hj=>?_⟩,by omega,⟨s.y+1,fun j=>bif decide (j<g.w) then g.c (s.y*g.w+j) g.ink else s.R j⟩,hy,⟨rfl,fun i hi=>?_,fun _ _=>rfl⟩,by show g.h-(s.y+1)<g.h-s.y; omega⟩
  ·have hj:j<g.w:=hj;show 0<=bif decide (j<g.w) then _ else _
   rw [ef j hj];exact hg.c _ (bU8 hj hy)
  ·obtain ⟨a,b,hb,rfl⟩:=bM0 hw.1 i;have em:g.w.min (((g.w*g.h:Nat):Int)-((s.y*g.w:Nat):Int)).toNat=g.w:=uo (by omega);refine b29 (fun h=>?_) (fun h=>?_)
   ·rw [em] at h;obtain rfl:=(bL9 hb).1 h
    show _=bif decide ((s.y*g.w+b) / g.w<s.y+1) then al1 g ((s.y*g.w+b) / g.w) ((s.y*g.w+b) % g.w) else 0
    rw [aC5 hb,aI1 hb,lj (xB _),show s.y*g.w+b-s.y*g.w=b by omega,a94 ef];rfl
   ·rw [em] at h;have h:a≠s.y:=fun hc=>h ((bL9 hb).2 hc)
    unfold o1;rw [aC5 hb,show decide (a<s.y+1)=decide (a<s.y) from xS.2 (by omega)]
 ·have hsy:s.y<=g.h:=hs;obtain ⟨a,b,hb,rfl⟩:=bM0 hw.1 i;have:=b19 hi
  unfold o1 o2;rw [aC5 hb,aI1 hb,lj (show a<s.y by omega),lg (show ¬ (b<0\/b=0/\a<0) by omega)];rfl
 ·obtain ⟨hx,hy⟩:=hy;have hy:y<g.h:=by omega
  have hin:=bU8 hx hy;refine ⟨by omega,by omega,by omega,hin,by omega,hy,by omega,y+1,⟨hx,hy⟩,⟨rfl,fun i hi=>?_⟩,by show g.h-(y+1)<g.h-y; omega⟩;by_cases h:i=y
  ·subst h;rw [lj ⟨rfl,lf _,uq⟩,lj (xB _)];unfold o2;rw [aC5 hx,aI1 hx,lg (show ¬ (s3.y<s3.y\/s3.y=s3.y/\i<0) by omega)];rfl
  ·rw [lg (fun hc=>h hc.1),show decide (i<y+1)=decide (i<y) from xS.2 (by omega)];rfl
 ·obtain ⟨hx,hy⟩:=hy;obtain rfl:y=g.h:=by omega
  have ef:∀ j,j<g.h->(bif decide (j<g.h) then al1 g j s3.y else s3.R j)=al1 g j s3.y:=fun j hj=>by rw [lj hj]; rfl
  refine ⟨⟨by show g.h<=_; omega,hr,fun j hj=>?_⟩,⟨0,⟨hx,lC _⟩,rfl,fun _ _=>rfl,ef,fun i _=>by rw [a94 ef]; rfl⟩,fun y hy=>⟨fun hy1=>?_,fun hy1=>?_⟩⟩
  ·have hj:j<g.h:=hj;show 0<=bif decide (j<g.h) then _ else _
   rw [ef j hj];exact bn3 _ _ _ _
  ·have hy:y<g.h:=by omega
   have hin:=bU8 hx hy;refine ⟨by omega,hy,by omega,by omega,by omega,hin,by omega,y+1,⟨hx,hy⟩,⟨rfl,fun i hi=>?_⟩,by show g.h-(y+1)<g.h-y; omega⟩;obtain ⟨a,b,hb,rfl⟩:=bM0 hw.1 i;unfold o2;rw [aC5 hb,aI1 hb];by_cases h:a=y/\b=s3.y
   ·obtain ⟨rfl,rfl⟩:=h;rw [lj ⟨rfl,lf _,uq⟩,lj (show s3.y<s3.y\/s3.y=s3.y/\a<a+1 by omega)];rfl
   ·rw [lg (fun hc=>h ((cc7 hb hx).1 hc.1)),show decide (b<s3.y\/b=s3.y/\a<y+1)=decide (b<s3.y\/b=s3.y/\a<y) from xS.2 (by omega)];rfl
  ·have hyh:y<=g.h:=hy.2;refine ⟨by omega,⟨s3.y+1,fun j=>al1 g j s3.y⟩,hx,⟨rfl,fun i hi=>?_,fun _ _=>rfl⟩,by show g.w-(s3.y+1)<g.w-s3.y; omega⟩;obtain ⟨a,b,hb,rfl⟩:=bM0 hw.1 i;have:=b19 hi
   unfold o2;rw [aC5 hb,aI1 hb,show decide (b<s3.y\/b=s3.y/\a<y)=decide (b<s3.y+1\/b=s3.y+1/\a<0) from xS.2 (by omega)]
 ·have hsy:s3.y<=g.w:=hs3;obtain ⟨a,b,hb,rfl⟩:=bM0 hw.1 i;unfold o2 spr;rw [aC5 hb,aI1 hb,lj (show b<s3.y\/b=s3.y/\a<0 by omega)];rfl
end Tsp
namespace Tpn
open _root_.Go.Proofs.YtbkgncikjhibiaaGreat.Hid
open Go.RowKit Sx Num Aff Con Rga Gat Gar Wid Trp Tsp
structure PlG where
 w:Nat
 h:Nat
 c:Nat->Vec
 m:Nat
 o:Nat->Nat
 r:Nat
def PlG.sp (g:PlG) (k:Nat):SpG:=⟨g.w,g.h,g.c,g.o k,g.r⟩
structure PlG.Ok (g:PlG):Prop where
 m:g.m<=8
 w:1<=g.w/\g.w<=4096
 h:1<=g.h/\g.h<=4096
 o:∀ k,k<g.m->g.o k<8
 r:g.r<=1073741824
 c:∀ i j,i<g.w*g.h->j<8->0<=g.c i j
theorem PlG.Ok.sp {g:PlG}(h:g.Ok) {k:Nat}(hk:k<g.m):(g.sp k).Ok:=⟨h.w,h.h,h.o k hk,h.r,fun i hi=>h.c i _ hi (h.o k hk)⟩
def orS (m:Nat) (o:Nat->Nat):SV:= .sl m 1 (fun k _=> .int .i64 (o k))
def plS (g:PlG) (k i:Nat):SV:=byS (bif decide (i<k) then g.w*g.h else 0) (spr (g.sp i))
def plR (g:PlG) (k:Nat):SO:= .row 0 g.m 1 (fun i _=>plS g k i) 62
def wiS (g:PlG):SV:= .sl g.m 1 (fun i _=>byS (g.w*g.h) (spr (g.sp i)))
def pl1 (g:PlG):Inv:=⟨Nat,fun k=>k<=g.m,fun k=>⟨[(0,.osl 0 0),(1,.int .i64 g.w),(2,.int .i64 g.h),(3,orS g.m g.o),(4,.int .i64 g.r),(18,.int .i64 g.m),(19,.osl 6 0),(29,.int .i64 k)],
 [clR g.w g.h g.c,.dead,.dead,.dead,.dead,.dead,plR g k]⟩,fun k=>g.m-k⟩
theorem _root_.Go.Proofs.YtbkgncikjhibiaaGreat.Tw.func27:Tw.prog.funcs[27]?=some { Tryz.f27 with body:=some as7 }:=by kernel_rfl
def spPl:FSpec:=af2 27 [.arg 0] (γ:=PlG) (fun l os=>match l,os with
  | [_,.int _ w,.int _ h,.sl m _ o,.int _ r,_],[.row _ _ _ f _]=>some ⟨w.toNat,h.toNat,fun i j=>Sx.intOf (f i j),m,fun k=>(Sx.intOf (o k 0)).toNat,r.toNat⟩
  | _,_=>none)
 (fun g=>[.osl 0 0,.int .i64 g.w,.int .i64 g.h,orS g.m g.o,.int .i64 g.r,.int .i64 1]) (fun g=>[clR g.w g.h g.c]) PlG.Ok wiS (fun g=>[clR g.w g.h g.c])
theorem ok_pl:aa7 Tw.prog spPl:=by
 refine smW (specs:=[cg9]) (⟨cl0,trivial⟩) Tw.func27 (fun g=>(⟨[(10,.inv (pl1 g))],[]⟩:Ann)) false ?_;rintro g hg;refine ad5 (B:=let T5:=fun p:Prop=>True/\True/\True/\True/\True/\p;let A:=Aq;let z10:=(↑g.r:Int);let z9:=(↑g.h:Int);let z8:=(↑g.w:Int);let z7:=(0:Nat);let z5:=(↑g.m:Int);let z2:=(IntKind.i64=IntKind.i64);let q2:=fun p:Int=>A z2/\A (p=p);let z4:=(A (g.m=g.m)/\∀ i:Nat,i<g.m->True/\q2 ((↑(g.o i):Int)));let z1:=(IntKind.u8=IntKind.u8);let q1:=fun p:Int=>A z1/\A (p=p);let z0:=(A (g.w*g.h=g.w*g.h)/\∀ i:Nat,i<g.w*g.h->(chp True (fun j:Nat=>q1 (g.c i j)) 7)/\q1 (g.c i (7:Nat)));T5 (True/\True/\Br (decide (z5<=(8:Int))) (T5 (True/\A ((0:Int)<=z5/\z5<=z5/\(↑(24:Nat):Int)*z5<=(140737488355328:Int)/\z5<=(9223372036854775807:Int))/\T5 ((∃ g_1:Nat,A ((pl1 g).pre g_1)/\True/\(True/\(q2 z8)/\(q2 z9)/\z4/\(q2 z10)/\(q2 z5)/\True/\(A z2/\A ((0:Int)=(↑g_1:Int)))/\True)/\z0/\T5 ((A (z5.toNat=g.m)/\∀ i:Nat,i<g.m->True/\A ((bif decide (i<g_1) then g.w*g.h else z7)=z7))/\True))/\∀ g_1:Nat,let z3:=(↑g_1:Int);let z12:=(↑(g.o z3.toNat):Int);let z6:=(SpG.mk z8.toNat z9.toNat g.c z12.toNat z10.toNat); (pl1 g).pre g_1->True/\Br (decide (z3<z5)) (A ((0:Int)<=z3/\z3<z5)/\True/\((True/\(True/\(A z2/\A (z8=(↑z8.toNat:Int)))/\(A z2/\A (z9=(↑z9.toNat:Int)))/\(A z2/\A (z12=(↑z12.toNat:Int)))/\(A z2/\A (z10=(↑z10.toNat:Int)))/\True)/\(A (g.w*g.h=z8.toNat*z9.toNat)/\∀ i:Nat,i<z8.toNat*z9.toNat->(chp True (fun j:Nat=>q1 (g.c i j)) 7)/\q1 (g.c i (7:Nat)))/\True)/\A z6.Ok)/\A ((0:Int)<=z3/\z3<z5)/\A (z3.toNat<g.m)/\A ((-9223372036854775808:Int)<=z3+(1:Int)/\z3+(1:Int)<=(9223372036854775807:Int))/\True/\∃ (g':Nat),A ((pl1 g).pre g')/\True/\((True/\(q2 z8)/\(q2 z9)/\z4/\(q2 z10)/\(q2 z5)/\True/\(A z2/\A (z3+(1:Int)=(↑g':Int)))/\True)/\(A (z8.toNat*z9.toNat=g.w*g.h)/\∀ i:Nat,i<g.w*g.h->(chp True (fun j:Nat=>q1 (g.c i j)) 7)/\q1 (g.c i (7:Nat)))/\T5 ((A (g.m=g.m)/\∀ i:Nat,let z11:=(i=z3.toNat/\z7<=z7/\z7<z7+(1:Nat)); i<g.m->True/\A ((bif decide z11 then z8.toNat*z9.toNat else bif decide (i<g_1) then g.w*g.h else z7)=bif decide (i<g') then g.w*g.h else z7)/\∀ i_1:Nat,(i_1<bif decide (i<g') then g.w*g.h else z7)->True/\A z1/\A ((bif decide z11 then spr z6 i_1 else spr (g.sp i) i_1)=spr (g.sp i) i_1))/\True))/\A ((pl1 g).meas g'<(pl1 g).meas g_1)) (True/\True/\True/\((A (g.m=g.m)/\∀ i:Nat,i<g.m->True/\A ((bif decide (i<g_1) then g.w*g.h else z7)=g.w*g.h)/\∀ i_1:Nat,i_1<g.w*g.h->True/\q1 (spr (g.sp i) i_1))/\True)/\z0/\True)))) False)) ?_;simp only [chp];simp only [cln,lF,lS,xg];have hm:=hg.m;refine ⟨fun _=>⟨by omega,⟨0,lC _,rfl,fun i _=>?_⟩,fun k hk=>⟨fun hlt=>?_,fun hge i hi=>?_⟩⟩,fun h=>h (by omega)⟩
 ·rw [lg (ln _)]; rfl
 ·have hkm:k<g.m:=by omega
  refine ⟨by omega,hg.sp hkm,by omega,hkm,by omega,k+1,hkm,⟨rfl,fun i hi=>?_⟩,by show g.m-(k+1)<g.m-k; omega⟩;by_cases h:i=k
  ·subst h;rw [lj ⟨rfl,lf _,uq⟩,lj (xB _)];exact ⟨rfl,fun _ _=>rfl⟩
  ·rw [lg (fun hc=>h hc.1),show decide (i<k+1)=decide (i<k) from xS.2 (by omega)];exact ⟨rfl,fun _ _=>rfl⟩
 ·rw [lj (show i<k by omega)]; rfl
end Tpn
namespace Tco
open Go.RowKit Sx Num Aff Con Rga Rgl Rgm Rgn Rgc Gat Gar Ows Apl Apt Tpn
structure CoG where
 P:Pcs
 m:Nat
 o:Nat->Nat
structure CoG.Ok (g:CoG):Prop where
 n:g.P.n<=4096
 m:g.m<=8
 o:∀ k,k<g.m->g.o k<8
 d:∀ i j,i<j->j<g.m->g.o i≠g.o j
 c:∀ k j,k<g.P.n->j<8->g.P.ink k j≠0->∃ i,i<g.m/\g.o i=j
def kn (o:Nat->Nat):Nat->Nat->Bool
 | 0,_=>false
 | k+1,j=>kn o k j||decide (o k=j)
theorem bJ9 {o:Nat->Nat}{j:Nat}:∀ {k},kn o k j=true<->∃ i,i<k/\o i=j
 | 0=>⟨fun h=>(by cases h),fun ⟨_,h,_⟩=>absurd h (ln _)⟩
 | k+1=>by
  unfold kn;rw [xd,bJ9,lL];constructor
  ·rintro (⟨i,h1,h2⟩ | h)
   ·exact ⟨i,by omega,h2⟩
   ·exact ⟨k,by omega,h⟩
  ·rintro ⟨i,h1,h2⟩;by_cases h:i=k
   ·exact .inr (h▸h2)
   ·exact .inl ⟨i,by omega,h2⟩
def knO (g:CoG) (k:Nat):SO:= .cells 8 (fun j=> .bool (kn g.o k j)) 77
def co1 (g:CoG):Inv:=⟨Nat,fun k=>k<=g.m,fun k=>⟨[(0,pcS g.P),(5,.own 0 0),(15,orS g.m g.o),(16,.int .i64 g.m),(17,.int .i64 k)],[knO g k]⟩,fun k=>g.m-k⟩
def coT (g:CoG) (k:Nat) (s:SV):St:=⟨[(0,pcS g.P),(5,.own 0 0),(7,s),(15,orS g.m g.o),(16,.int .i64 g.m),(17,.int .i64 k)],[knO g k]⟩
def coI (g:CoG) (k:Nat):Inv:=⟨Unit,fun _=>k<g.m/\g.o k<8,fun _=>coT g k (.int .i64 (g.o k)),fun _=>0⟩
def coJ (g:CoG) (k j:Nat):Inv:=⟨Unit,fun _=>k<g.m/\g.o k=j,fun _=>coT g k (.int .i64 j),fun _=>0⟩
def coJs (g:CoG) (k:Nat):List Inv:=[coJ g k 0,coJ g k 1,coJ g k 2,coJ g k 3,coJ g k 4,coJ g k 5,coJ g k 6,coJ g k 7]
theorem cb3 (g:CoG) (k:Nat):bt6 55 0 (coI g k) (coJs g k):=by
 rintro _ ⟨h1,h2⟩ w0 X0 a w _ h;have h:StR w0 X0 55 (coT g k (.int .i64 (g.o k))) a w:=h;have key:∀ j,g.o k=j->∃ h,(coJ g k j).pre h/\StR w0 X0 55 ((coJ g k j).st h) a w:=fun j hj=>⟨(),⟨h1,hj⟩,by subst hj; exact h⟩
 have h8:g.o k=0\/g.o k=1\/g.o k=2\/g.o k=3\/g.o k=4\/g.o k=5\/g.o k=6\/g.o k=7:=by omega
 rcases h8 with h | h | h | h | h | h | h | h<;>exact ⟨_,by simp [coJs],key _ h⟩
def coK (g:CoG):Inv:=⟨Nat,fun k=>k<=g.P.n,fun k=>⟨[(5,.own 0 0),(33,pcS g.P),(34,.int .i64 g.P.n),(35,.int .i64 k)],[knO g g.m]⟩,fun k=>g.P.n-k⟩
def coS (g:CoG) (k:Nat) (j:Nat):St:=⟨[(5,.own 0 0),(33,pcS g.P),(34,.int .i64 g.P.n),(35,.int .i64 k),(40,.agg 8 (fun j=> .int .u8 (g.P.ink k j))),(41,.int .i64 j)],[knO g g.m]⟩
def coC (g:CoG) (k:Nat):Inv:=⟨Nat,fun j=>k<g.P.n/\j<=8,fun j=>coS g k j,fun j=>8-j⟩
def spCo:FSpec:=ab0 25 (γ:=CoG) (fun | [s,.sl m _ o]=>some ⟨pcD s,m,fun k=>(Sx.intOf (o k 0)).toNat⟩ | _=>none) (fun g=>[pcS g.P,orS g.m g.o]) CoG.Ok (fun _=> .int .i64 0)
theorem ok_co:aa7 Tw.prog spCo:=by
 refine ssW (specs:=[]) trivial Tw.func25 (fun g=>(⟨[(5,.nest (co1 g) (fun k=>[(5000009,.hand (coI g k) (coJs g k))])),(14,.nest (coK g) (fun k=>[(17,.inv (coC g k))]))],[]⟩:Ann)) ?_;rintro g hg;refine ad5 (B:=let K:=Br;let A:=Aq;let z39:=(↑g.m:Int);let z29:=(9223372036854775807:Int);let z28:=(-9223372036854775808:Int);let z24:=(1:Int);let z20:=(0:Int);let z18:=(7:Nat);let z17:=(6:Nat);let z16:=(5:Nat);let z15:=(4:Nat);let z14:=(3:Nat);let z13:=(2:Nat);let z11:=(1:Nat);let z10:=(↑(8:Nat):Int);let z37:=(z20<=(↑z18:Int)/\(↑z18:Int)<z10);let z36:=(z20<=(↑z17:Int)/\(↑z17:Int)<z10);let z35:=(z20<=(↑z16:Int)/\(↑z16:Int)<z10);let z34:=(z20<=(↑z15:Int)/\(↑z15:Int)<z10);let z33:=(z20<=(↑z14:Int)/\(↑z14:Int)<z10);let z32:=(z20<=(↑z13:Int)/\(↑z13:Int)<z10);let z31:=(z20<=(↑z11:Int)/\(↑z11:Int)<z10);let z9:=(0:Nat);let z38:=(z20<=(↑z9:Int)/\(↑z9:Int)<z10);let z25:=(z9=z9);let z6:=(IntKind.u8=IntKind.u8);let q6:=fun p:Int=>A z6/\A (p=p);let z2:=(IntKind.i64=IntKind.i64);let q2:=fun p:Int=>A z2/\A (p=p);let z12:=(q2 ((↑g.P.n:Int)));let z8:=(True/\True/\A z2/\A ((7:Int)=z20));let z7:=(q2 z39);let z3:=(A (g.m=g.m)/\∀ i:Nat,i<g.m->True/\q2 ((↑(g.o i):Int)));let z1:=((((((((True/\A (kn g.o g.m z9=kn g.o g.m z9))/\A (kn g.o g.m z11=kn g.o g.m z11))/\A (kn g.o g.m z13=kn g.o g.m z13))/\A (kn g.o g.m z14=kn g.o g.m z14))/\A (kn g.o g.m z15=kn g.o g.m z15))/\A (kn g.o g.m z16=kn g.o g.m z16))/\A (kn g.o g.m z17=kn g.o g.m z17))/\A (kn g.o g.m z18=kn g.o g.m z18));let z0:=(A (g.P.n=g.P.n)/\∀ i:Nat,i<g.P.n->(chp (True/\A (g.P.m i=g.P.m i)/\∀ i_1:Nat,let z30:=(g.P.p i i_1); i_1<g.P.m i->((True/\q2 z30.y)/\q2 z30.x0)/\q2 z30.x1) (fun j:Nat=>q6 (g.P.ink i j)) 7)/\q6 (g.P.ink i z18));True/\True/\True/\True/\K (decide ((8:Int)<z39)) (True/\True/\A z2/\A ((2:Int)=z20)) (True/\True/\True/\True/\(∃ g_1:Nat,A ((co1 g).pre g_1)/\(z0/\A z25/\z3/\z7/\(A z2/\A (z20=(↑g_1:Int)))/\True)/\(chp True (fun j:Nat=>A (false=kn g.o g_1 j)) 8)/\True)/\∀ g_1:Nat,let z21:=(↑g_1:Int);let z4:=(z28<=z21+z24/\z21+z24<=z29); (co1 g).pre g_1->True/\K (decide (z21<z39)) (A (z20<=z21/\z21<z39)/\True/\True/\True/\True/\True/\True/\True/\True/\K (decide ((8:Int)<=(↑(g.o z21.toNat):Int))) (True/\True/\A z2/\A ((3:Int)=z20)) (bt6 (nat_lit 55) (nat_lit 0) (coI g g_1) (coJs g g_1)/\(∃ g_2:Unit,A ((coI g g_1).pre g_2)/\(z0/\A z25/\(A z2/\A ((↑(g.o z21.toNat):Int)=(↑(g.o g_1):Int)))/\z3/\z7/\(q2 z21)/\True)/\((((((((True/\A (kn g.o g_1 z9=kn g.o g_1 z9))/\A (kn g.o g_1 z11=kn g.o g_1 z11))/\A (kn g.o g_1 z13=kn g.o g_1 z13))/\A (kn g.o g_1 z14=kn g.o g_1 z14))/\A (kn g.o g_1 z15=kn g.o g_1 z15))/\A (kn g.o g_1 z16=kn g.o g_1 z16))/\A (kn g.o g_1 z17=kn g.o g_1 z17))/\A (kn g.o g_1 z18=kn g.o g_1 z18))/\True)/\(∀ h:Unit,(coJ g g_1 z9).pre h->True/\A z38/\True/\K (kn g.o g_1 (z9+(↑z9:Int).toNat*z11)) z8 (True/\A z38/\True/\A z4/\True/\∃ (g':Nat),A ((co1 g).pre g')/\((z0/\A z25/\z3/\z7/\(A z2/\A (z21+z24=(↑g':Int)))/\True)/\((((((((True/\A (true=kn g.o g' z9))/\A (kn g.o g_1 z11=kn g.o g' z11))/\A (kn g.o g_1 z13=kn g.o g' z13))/\A (kn g.o g_1 z14=kn g.o g' z14))/\A (kn g.o g_1 z15=kn g.o g' z15))/\A (kn g.o g_1 z16=kn g.o g' z16))/\A (kn g.o g_1 z17=kn g.o g' z17))/\A (kn g.o g_1 z18=kn g.o g' z18))/\True)/\A ((co1 g).meas g'<(co1 g).meas g_1)))/\(∀ h:Unit,(coJ g g_1 z11).pre h->True/\A z31/\True/\K (kn g.o g_1 (z9+(↑z11:Int).toNat*z11)) z8 (True/\A z31/\True/\A z4/\True/\∃ (g':Nat),A ((co1 g).pre g')/\((z0/\A z25/\z3/\z7/\(A z2/\A (z21+z24=(↑g':Int)))/\True)/\((((((((True/\A (kn g.o g_1 z9=kn g.o g' z9))/\A (true=kn g.o g' z11))/\A (kn g.o g_1 z13=kn g.o g' z13))/\A (kn g.o g_1 z14=kn g.o g' z14))/\A (kn g.o g_1 z15=kn g.o g' z15))/\A (kn g.o g_1 z16=kn g.o g' z16))/\A (kn g.o g_1 z17=kn g.o g' z17))/\A (kn g.o g_1 z18=kn g.o g' z18))/\True)/\A ((co1 g).meas g'<(co1 g).meas g_1)))/\(∀ h:Unit,(coJ g g_1 z13).pre h->True/\A z32/\True/\K (kn g.o g_1 (z9+(↑z13:Int).toNat*z11)) z8 (True/\A z32/\True/\A z4/\True/\∃ (g':Nat),A ((co1 g).pre g')/\((z0/\A z25/\z3/\z7/\(A z2/\A (z21+z24=(↑g':Int)))/\True)/\((((((((True/\A (kn g.o g_1 z9=kn g.o g' z9))/\A (kn g.o g_1 z11=kn g.o g' z11))/\A (true=kn g.o g' z13))/\A (kn g.o g_1 z14=kn g.o g' z14))/\A (kn g.o g_1 z15=kn g.o g' z15))/\A (kn g.o g_1 z16=kn g.o g' z16))/\A (kn g.o g_1 z17=kn g.o g' z17))/\A (kn g.o g_1 z18=kn g.o g' z18))/\True)/\A ((co1 g).meas g'<(co1 g).meas g_1)))/\(∀ h:Unit,(coJ g g_1 z14).pre h->True/\A z33/\True/\K (kn g.o g_1 (z9+(↑z14:Int).toNat*z11)) z8 (True/\A z33/\True/\A z4/\True/\∃ (g':Nat),A ((co1 g).pre g')/\((z0/\A z25/\z3/\z7/\(A z2/\A (z21+z24=(↑g':Int)))/\True)/\((((((((True/\A (kn g.o g_1 z9=kn g.o g' z9))/\A (kn g.o g_1 z11=kn g.o g' z11))/\A (kn g.o g_1 z13=kn g.o g' z13))/\A (true=kn g.o g' z14))/\A (kn g.o g_1 z15=kn g.o g' z15))/\A (kn g.o g_1 z16=kn g.o g' z16))/\A (kn g.o g_1 z17=kn g.o g' z17))/\A (kn g.o g_1 z18=kn g.o g' z18))/\True)/\A ((co1 g).meas g'<(co1 g).meas g_1)))/\(∀ h:Unit,(coJ g g_1 z15).pre h->True/\A z34/\True/\K (kn g.o g_1 (z9+(↑z15:Int).toNat*z11)) z8 (True/\A z34/\True/\A z4/\True/\∃ (g':Nat),A ((co1 g).pre g')/\((z0/\A z25/\z3/\z7/\(A z2/\A (z21+z24=(↑g':Int)))/\True)/\((((((((True/\A (kn g.o g_1 z9=kn g.o g' z9))/\A (kn g.o g_1 z11=kn g.o g' z11))/\A (kn g.o g_1 z13=kn g.o g' z13))/\A (kn g.o g_1 z14=kn g.o g' z14))/\A (true=kn g.o g' z15))/\A (kn g.o g_1 z16=kn g.o g' z16))/\A (kn g.o g_1 z17=kn g.o g' z17))/\A (kn g.o g_1 z18=kn g.o g' z18))/\True)/\A ((co1 g).meas g'<(co1 g).meas g_1)))/\(∀ h:Unit,(coJ g g_1 z16).pre h->True/\A z35/\True/\K (kn g.o g_1 (z9+(↑z16:Int).toNat*z11)) z8 (True/\A z35/\True/\A z4/\True/\∃ (g':Nat),A ((co1 g).pre g')/\((z0/\A z25/\z3/\z7/\(A z2/\A (z21+z24=(↑g':Int)))/\True)/\((((((((True/\A (kn g.o g_1 z9=kn g.o g' z9))/\A (kn g.o g_1 z11=kn g.o g' z11))/\A (kn g.o g_1 z13=kn g.o g' z13))/\A (kn g.o g_1 z14=kn g.o g' z14))/\A (kn g.o g_1 z15=kn g.o g' z15))/\A (true=kn g.o g' z16))/\A (kn g.o g_1 z17=kn g.o g' z17))/\A (kn g.o g_1 z18=kn g.o g' z18))/\True)/\A ((co1 g).meas g'<(co1 g).meas g_1)))/\(∀ h:Unit,(coJ g g_1 z17).pre h->True/\A z36/\True/\K (kn g.o g_1 (z9+(↑z17:Int).toNat*z11)) z8 (True/\A z36/\True/\A z4/\True/\∃ (g':Nat),A ((co1 g).pre g')/\((z0/\A z25/\z3/\z7/\(A z2/\A (z21+z24=(↑g':Int)))/\True)/\((((((((True/\A (kn g.o g_1 z9=kn g.o g' z9))/\A (kn g.o g_1 z11=kn g.o g' z11))/\A (kn g.o g_1 z13=kn g.o g' z13))/\A (kn g.o g_1 z14=kn g.o g' z14))/\A (kn g.o g_1 z15=kn g.o g' z15))/\A (kn g.o g_1 z16=kn g.o g' z16))/\A (true=kn g.o g' z17))/\A (kn g.o g_1 z18=kn g.o g' z18))/\True)/\A ((co1 g).meas g'<(co1 g).meas g_1)))/\(∀ h:Unit,(coJ g g_1 z18).pre h->True/\A z37/\True/\K (kn g.o g_1 (z9+(↑z18:Int).toNat*z11)) z8 (True/\A z37/\True/\A z4/\True/\∃ (g':Nat),A ((co1 g).pre g')/\((z0/\A z25/\z3/\z7/\(A z2/\A (z21+z24=(↑g':Int)))/\True)/\((((((((True/\A (kn g.o g_1 z9=kn g.o g' z9))/\A (kn g.o g_1 z11=kn g.o g' z11))/\A (kn g.o g_1 z13=kn g.o g' z13))/\A (kn g.o g_1 z14=kn g.o g' z14))/\A (kn g.o g_1 z15=kn g.o g' z15))/\A (kn g.o g_1 z16=kn g.o g' z16))/\A (kn g.o g_1 z17=kn g.o g' z17))/\A (true=kn g.o g' z18))/\True)/\A ((co1 g).meas g'<(co1 g).meas g_1)))/\True)) (True/\True/\True/\(∃ g_2:Nat,A ((coK g).pre g_2)/\(A z25/\z0/\z12/\(A z2/\A (z20=(↑g_2:Int)))/\True)/\((((((((True/\A (kn g.o g_1 z9=kn g.o g.m z9))/\A (kn g.o g_1 z11=kn g.o g.m z11))/\A (kn g.o g_1 z13=kn g.o g.m z13))/\A (kn g.o g_1 z14=kn g.o g.m z14))/\A (kn g.o g_1 z15=kn g.o g.m z15))/\A (kn g.o g_1 z16=kn g.o g.m z16))/\A (kn g.o g_1 z17=kn g.o g.m z17))/\A (kn g.o g_1 z18=kn g.o g.m z18))/\True)/\∀ g_2:Nat,let z27:=(coC g g_2);let z19:=(↑g_2:Int);let z26:=(q2 z19);let z5:=(chp True (fun j:Nat=>q6 (g.P.ink g_2 j)) 8); (coK g).pre g_2->True/\K (decide (z19<(↑g.P.n:Int))) (A (z20<=z19/\z19<(↑g.P.n:Int))/\True/\True/\True/\True/\True/\True/\(∃ g_3:Nat,A (z27.pre g_3)/\(A z25/\z0/\z12/\z26/\((((((((True/\A z6/\A (g.P.ink z19.toNat z9=g.P.ink g_2 z9))/\A z6/\A (g.P.ink z19.toNat z11=g.P.ink g_2 z11))/\A z6/\A (g.P.ink z19.toNat z13=g.P.ink g_2 z13))/\A z6/\A (g.P.ink z19.toNat z14=g.P.ink g_2 z14))/\A z6/\A (g.P.ink z19.toNat z15=g.P.ink g_2 z15))/\A z6/\A (g.P.ink z19.toNat z16=g.P.ink g_2 z16))/\A z6/\A (g.P.ink z19.toNat z17=g.P.ink g_2 z17))/\A z6/\A (g.P.ink z19.toNat z18=g.P.ink g_2 z18))/\(A z2/\A (z20=(↑g_3:Int)))/\True)/\z1/\True)/\∀ g_3:Nat,let z23:=(↑g_3:Int);let z22:=(z28<=z23+z24/\z23+z24<=z29); z27.pre g_3->True/\K (decide (z23<(8:Int))) (True/\A (z20<=z23/\z23<z10)/\True/\True/\True/\True/\True/\K (decide (g.P.ink g_2 z23.toNat≠z20)) (True/\A (z20<=z23/\z23<z10)/\K (decide (z9+z23.toNat*z11+z11<=(8:Nat))) True False/\True/\True/\K (!kn g.o g.m (z9+z23.toNat*z11)) (True/\True/\A z2/\A ((8:Int)=z20)) (A z22/\True/\∃ (g':Nat),A (z27.pre g')/\((A z25/\z0/\z12/\z26/\z5/\(A z2/\A (z23+z24=(↑g':Int)))/\True)/\z1/\True)/\A (z27.meas g'<z27.meas g_3))) (True/\A z22/\True/\∃ (g':Nat),A (z27.pre g')/\((A z25/\z0/\z12/\z26/\z5/\(A z2/\A (z23+z24=(↑g':Int)))/\True)/\z1/\True)/\A (z27.meas g'<z27.meas g_3))) (A (z28<=z19+z24/\z19+z24<=z29)/\True/\∃ (g':Nat),A ((coK g).pre g')/\((A z25/\z0/\z12/\(A z2/\A (z19+z24=(↑g':Int)))/\True)/\z1/\True)/\A ((coK g).meas g'<(coK g).meas g_2))) (True/\True/\q2 z20)))) ?_;simp only [chp];simp only [cln,lF,lS];have hm:=hg.m;have hn:=hg.n;refine ⟨fun h=>by omega,fun _=>⟨⟨0,lC _,rfl,⟨⟨⟨⟨⟨⟨⟨rfl,rfl⟩,rfl⟩,rfl⟩,rfl⟩,rfl⟩,rfl⟩,rfl⟩⟩,fun k hk=>⟨fun hlt=>?_,fun hge=>?_⟩⟩⟩
 ·have hkm:k<g.m:=by omega
  have ho:=hg.o k hkm;have nk:∀ j,g.o k=j->¬ kn g.o k j=true:=fun j hj h=>by
   obtain ⟨i,h1,h2⟩:=bJ9.1 h;exact hg.d i k h1 hkm (h2.trans hj.symm)
  have hms:(co1 g).meas (k+1)<(co1 g).meas k:=by show g.m-(k+1)<g.m-k; omega
  refine ⟨by omega,fun h=>by omega,fun _=>⟨cb3 g k,⟨(),hkm,ho⟩,?_,?_,?_,?_,?_,?_,?_,?_⟩⟩;all_goals
   intro _ hj;have hj':=hj.2;refine ⟨by omega,fun h=>absurd h (nk _ hj'),fun _=>⟨by omega,by omega,k+1,hkm,⟨rfl,?_⟩,hms⟩⟩;simp [kn,hj']
 ·have hk:k<=g.m:=hk;obtain rfl:k=g.m:=by omega
  refine ⟨⟨0,lC _,rfl,⟨⟨⟨⟨⟨⟨⟨rfl,rfl⟩,rfl⟩,rfl⟩,rfl⟩,rfl⟩,rfl⟩,rfl⟩⟩,fun a ha hlt=>⟨by omega,⟨0,⟨by omega,lC _⟩,rfl⟩,fun j hj=>⟨fun hj8=>?_,fun hj8=>?_⟩⟩⟩
  ·obtain ⟨ha',hj'⟩:=hj;have hms:(coC g a).meas (j+1)<(coC g a).meas j:=by show 8-(j+1)<8-j; omega
   have hj1:j+1<=8:=by omega
   have go:(-9223372036854775808<=(j:Int)+1/\(j:Int)+1<=9223372036854775807)/\∃ g':Nat,(coC g a).pre g'/\(j:Int)+1=(g':Int)/\(coC g a).meas g'<(coC g a).meas j:=⟨by omega,j+1,⟨ha',hj1⟩,rfl,hms⟩
   refine ⟨by omega,fun hc=>⟨by omega,fun h=>h hj1,fun h=>?_,fun _=>go⟩,fun _=>go⟩;have:=bJ9.2 (hg.c a j ha' hj1 hc)
   rw [this] at h;cases h
  ·exact ⟨by omega,a+1,by show a+1<=g.P.n; omega,rfl,by show g.P.n-(a+1)<g.P.n-a; omega⟩
structure CkG where
 w:Nat
 h:Nat
 c:CoG
 r:Nat
structure CkG.Ok (g:CkG):Prop where
 P:ChG.Ok ⟨g.w,g.h,g.c.P⟩
 c:g.c.Ok
 r:g.r<=64
def spCk:FSpec:=ab0 11 (γ:=CkG) (fun | [.int _ w,.int _ h,s,.sl m _ o,.int _ r]=>some ⟨w.toNat,h.toNat,⟨pcD s,m,fun k=>(Sx.intOf (o k 0)).toNat⟩,r.toNat⟩ | _=>none) (fun g=>[.int .i64 g.w,.int .i64 g.h,pcS g.c.P,orS g.c.m g.c.o,.int .i64 g.r]) CkG.Ok (fun _=> .int .i64 0)
theorem ok_ck:aa7 Tw.prog spCk:=by
 refine ssW (specs:=[aJ8,spCo]) (⟨aN5,ok_co,trivial⟩) Tw.func11 (fun g=>A0) ?_;rintro g hg;refine ad5 (B:=let A:=Aq;let z2:=(IntKind.u8=IntKind.u8);let q2:=fun p:Int=>A z2/\A (p=p);let z1:=(IntKind.i64=IntKind.i64);let q1:=fun p:Int=>A z1/\A (p=p);let z0:=(A (g.c.P.n=g.c.P.n)/\∀ i:Nat,i<g.c.P.n->(chp (True/\A (g.c.P.m i=g.c.P.m i)/\∀ i_1:Nat,let z3:=(g.c.P.p i i_1); i_1<g.c.P.m i->((True/\q1 z3.y)/\q1 z3.x0)/\q1 z3.x1) (fun j:Nat=>q2 (g.c.P.ink i j)) 7)/\q2 (g.c.P.ink i (7:Nat)));True/\True/\True/\True/\(((A z1/\A ((↑g.w:Int)=(↑(↑g.w:Int).toNat:Int)))/\(A z1/\A ((↑g.h:Int)=(↑(↑g.h:Int).toNat:Int)))/\z0/\True)/\A (ChG.mk (↑g.w:Int).toNat (↑g.h:Int).toNat g.c.P).Ok)/\True/\True/\True/\True/\True/\((z0/\(A (g.c.m=g.c.m)/\∀ i:Nat,i<g.c.m->True/\q1 ((↑(g.c.o i):Int)))/\True)/\A g.c.Ok)/\True/\True/\True/\True/\True/\True/\True/\True/\True/\Br (decide ((64:Int)<(↑g.r:Int))) (True/\True/\A z1/\A ((3:Int)=(0:Int))) (True/\True/\q1 ((0:Int)))) ?_;simp only [chp];simp only [cln,lF,lS];have hr:=hg.r;exact ⟨hg.P,hg.c,fun h=>by omega⟩
end Tco
namespace Cel
open Go.RowKit Sx Num Aff Con Rga Gat Gar
theorem eight {a b:Vec}(h:∀ j,j<8->a j=b j):((((((a 0=b 0/\a 1=b 1)/\a 2=b 2)/\a 3=b 3)/\a 4=b 4)/\a 5=b 5)/\a 6=b 6)/\a 7=b 7:=
 ⟨⟨⟨⟨⟨⟨⟨h 0 (by omega),h 1 (by omega)⟩,h 2 (by omega)⟩,h 3 (by omega)⟩,h 4 (by omega)⟩,h 5 (by omega)⟩,h 6 (by omega)⟩,h 7 (by omega)⟩
structure CeG where
 w:Nat
 h:Nat
 P:Pcs
def put (c:Nat->Vec) (a b:Nat) (v:Vec) (i:Nat):Vec:=bif decide (a<=i/\i<b) then v else c i
def rwAt (w:Nat) (r:Rn):Nat:=r.y.toNat*(16*w)
def putR (w:Nat) (c:Nat->Vec) (r:Rn) (v:Vec):Nat->Vec:=put c (rwAt w r+r.x0.toNat) (rwAt w r+r.x1.toNat) v
def ceR (g:CeG) (c:Nat->Vec) (k:Nat):Nat->Nat->Vec
 | 0=>c
 | r+1=>putR g.w (ceR g c k r) (g.P.p k r) (g.P.ink k)
def ceP (g:CeG):Nat->Nat->Vec
 | 0=>fun _ _=>0
 | k+1=>ceR g (ceP g k) k (g.P.m k)
def ceB (g:CeG):Nat->Vec:=ceP g g.P.n
structure CeG.Ok (g:CeG):Prop where
 w:1<=g.w/\g.w<=256
 h:1<=g.h/\g.h<=256
 n:g.P.n<=4096
 m:∀ k,k<g.P.n->g.P.m k<=4294967296
 r:∀ k r,k<g.P.n->r<g.P.m k->(0<=(g.P.p k r).y/\(g.P.p k r).y<16*g.h)/\(0<=(g.P.p k r).x0/\(g.P.p k r).x0<(g.P.p k r).x1)/\(g.P.p k r).x1<=16*g.w
def ceO (g:CeG) (c:Nat->Vec):SO:= .row 0 (256*g.w*g.h) 8 (fun i j=> .int .u8 (c i j)) 26
def ce1 (g:CeG):Inv:=⟨Nat,fun k=>k<=g.P.n,fun k=>⟨[(0,.int .i64 g.w),(7,.osl 0 0),(19,pcS g.P),(20,.int .i64 g.P.n),(21,.int .i64 k)],[ceO g (ceP g k)]⟩,fun k=>g.P.n-k⟩
def ce2 (g:CeG) (k:Nat):Inv:=⟨Nat,fun r=>k<g.P.n/\r<=g.P.m k,fun r=>⟨[(0,.int .i64 g.w),(7,.osl 0 0),(19,pcS g.P),(20,.int .i64 g.P.n),(21,.int .i64 k),(9,.own 1 0),(26,rgS ⟨g.P.m k,g.P.p k⟩),(27,.int .i64 (g.P.m k)),(28,.int .i64 r)],
 [ceO g (ceR g (ceP g k) k r),.cells 9 (pcC g.P k) 39]⟩,fun r=>g.P.m k-r⟩
def ce3 (g:CeG) (k r:Nat):Inv:=⟨Nat,fun x=>(k<g.P.n/\r<g.P.m k)/\(g.P.p k r).x0<=x/\x<=(g.P.p k r).x1,
 fun x=>⟨[(0,.int .i64 g.w),(7,.osl 0 0),(19,pcS g.P),(20,.int .i64 g.P.n),(21,.int .i64 k),(9,.own 1 0),(26,rgS ⟨g.P.m k,g.P.p k⟩),(27,.int .i64 (g.P.m k)),(28,.int .i64 r),(11,.own 2 0),(12,.win 0 0 8 (rwAt g.w (g.P.p k r)) (256*g.w*g.h-rwAt g.w (g.P.p k r))),(13,.int .i64 x)],
 [ceO g (put (ceR g (ceP g k) k r) (rwAt g.w (g.P.p k r)+(g.P.p k r).x0.toNat) (rwAt g.w (g.P.p k r)+x) (g.P.ink k)),.cells 9 (pcC g.P k) 39,.cells 3 (lst (rnL (g.P.p k r))) 48]⟩,fun x=>((g.P.p k r).x1-x).toNat⟩
def bE6:FSpec:=a08 26 (γ:=CeG) (fun | [.int _ w,.int _ h,p]=>some ⟨w.toNat,h.toNat,pcD p⟩ | _=>none) (fun g=>[.int .i64 g.w,.int .i64 g.h,pcS g.P])
 (fun g=>g.Ok) (fun _=> .osl 0 0) (fun g=>ceO g (ceB g))
theorem bS7:aa7 Tw.prog bE6:=by
 refine aM3 (specs:=[]) (at7 trivial) (eqs:=[]) (fun _ _ h=>(xf h).elim) Aff.mixed Tw.func26 rfl (by kernel_rfl) (fun _ _=>by kernel_rfl)
  (fun g=>(⟨[(3,.nest (ce1 g) (fun k=>[(6,.nest (ce2 g k) (fun r=>[(10,.inv (ce3 g k r))]))]))],[]⟩:Ann)) (fun _=>0) (fun g=>lN (by kernel_rfl)) ?_
 rintro g hg;refine ad5 (B:=let T4:=fun p:Prop=>True/\True/\True/\True/\p;let K:=Int.ofNat;let A:=Aq;let z45:=(1:Int);let z44:=(8:Nat);let z43:=(16:Int);let z37:=(↑g.h:Int);let z36:=(256:Int);let z34:=(0:Int);let z30:=(7:Nat);let z29:=(6:Nat);let z28:=(5:Nat);let z27:=(4:Nat);let z26:=(3:Nat);let z25:=(2:Nat);let z24:=(1:Nat);let z20:=(↑g.w:Int);let z19:=(256:Nat);let z35:=(z19*g.w*g.h);let z18:=(-9223372036854775808:Int);let z17:=(9223372036854775807:Int);let z14:=(z19*g.w*g.h=z19*g.w*g.h);let z11:=(0:Nat);let z46:=(z11=z11);let z4:=(IntKind.i64=IntKind.i64);let q4:=fun p:Int=>A z4/\A (p=p);let z15:=(q4 z20);let z10:=(q4 ((↑g.P.n:Int)));let z2:=(IntKind.u8=IntKind.u8);let q2:=fun p:Int=>A z2/\A (p=p);let z0:=(A (g.P.n=g.P.n)/\∀ i:Nat,i<g.P.n->(chp (True/\A (g.P.m i=g.P.m i)/\∀ i_1:Nat,let z39:=(g.P.p i i_1); i_1<g.P.m i->((True/\q4 z39.y)/\q4 z39.x0)/\q4 z39.x1) (fun j:Nat=>q2 (g.P.ink i j)) 7)/\q2 (g.P.ink i z30));True/\True/\A (z18<=z36*z20/\z36*z20<=z17)/\True/\A (z18<=z36*z20*z37/\z36*z20*z37<=z17)/\A (z34<=z36*z20*z37/\z36*z20*z37<=z36*z20*z37/\(↑z44:Int)*(z36*z20*z37)<=(140737488355328:Int)/\z36*z20*z37<=z17)/\T4 ((∃ g_1:Nat,A ((ce1 g).pre g_1)/\(z15/\True/\z0/\z10/\(A z4/\A (z34=(↑g_1:Int)))/\True)/\(A ((z36*z20*z37).toNat=z19*g.w*g.h)/\∀ i:Nat,i<z19*g.w*g.h->(chp True (fun j:Nat=>A z2/\A (z34=ceP g g_1 i j)) 7)/\A z2/\A (z34=ceP g g_1 i z30))/\True)/\∀ g_1:Nat,let z21:=(↑(g.P.m g_1):Int);let z38:=(q4 z21);let z16:=(ceP g g_1);let z12:=(↑g_1:Int);let z32:=(q4 z12);let z9:=(g.P.ink g_1);let z7:=(A (g.P.m g_1=g.P.m g_1)/\∀ i:Nat,let z40:=(g.P.p g_1 i); i<g.P.m g_1->((True/\q4 z40.y)/\q4 z40.x0)/\q4 z40.x1);let z1:=(chp (True/\A (g.P.m g_1=g.P.m g_1)/\∀ i:Nat,let z41:=(g.P.p g_1 i); i<g.P.m g_1->((True/\q4 z41.y)/\q4 z41.x0)/\q4 z41.x1) (fun j:Nat=>q2 (g.P.ink g_1 j)) 8); (ce1 g).pre g_1->True/\Br (decide (z12<(↑g.P.n:Int))) (A (z34<=z12/\z12<(↑g.P.n:Int))/\T4 (True/\True/\True/\(∃ g_2:Nat,A ((ce2 g g_1).pre g_2)/\(z15/\True/\z0/\z10/\z32/\A z46/\(A (g.P.m z12.toNat=g.P.m g_1)/\∀ i:Nat,i<g.P.m g_1->((True/\A z4/\A ((g.P.p z12.toNat i).y=(g.P.p g_1 i).y))/\A z4/\A ((g.P.p z12.toNat i).x0=(g.P.p g_1 i).x0))/\A z4/\A ((g.P.p z12.toNat i).x1=(g.P.p g_1 i).x1))/\(A z4/\A ((↑(g.P.m z12.toNat):Int)=z21))/\(A z4/\A (z34=(↑g_2:Int)))/\True)/\(A z14/\∀ i:Nat,i<z19*g.w*g.h->(((((((True/\A z2/\A (ceP g g_1 i z11=ceR g z16 g_1 g_2 i z11))/\A z2/\A (ceP g g_1 i z24=ceR g z16 g_1 g_2 i z24))/\A z2/\A (ceP g g_1 i z25=ceR g z16 g_1 g_2 i z25))/\A z2/\A (ceP g g_1 i z26=ceR g z16 g_1 g_2 i z26))/\A z2/\A (ceP g g_1 i z27=ceR g z16 g_1 g_2 i z27))/\A z2/\A (ceP g g_1 i z28=ceR g z16 g_1 g_2 i z28))/\A z2/\A (ceP g g_1 i z29=ceR g z16 g_1 g_2 i z29))/\A z2/\A (ceP g g_1 i z30=ceR g z16 g_1 g_2 i z30))/\(((((((((True/\A (g.P.m z12.toNat=g.P.m g_1)/\∀ i:Nat,i<g.P.m g_1->((True/\A z4/\A ((g.P.p z12.toNat i).y=(g.P.p g_1 i).y))/\A z4/\A ((g.P.p z12.toNat i).x0=(g.P.p g_1 i).x0))/\A z4/\A ((g.P.p z12.toNat i).x1=(g.P.p g_1 i).x1))/\A z2/\A (g.P.ink z12.toNat z11=g.P.ink g_1 z11))/\A z2/\A (g.P.ink z12.toNat z24=g.P.ink g_1 z24))/\A z2/\A (g.P.ink z12.toNat z25=g.P.ink g_1 z25))/\A z2/\A (g.P.ink z12.toNat z26=g.P.ink g_1 z26))/\A z2/\A (g.P.ink z12.toNat z27=g.P.ink g_1 z27))/\A z2/\A (g.P.ink z12.toNat z28=g.P.ink g_1 z28))/\A z2/\A (g.P.ink z12.toNat z29=g.P.ink g_1 z29))/\A z2/\A (g.P.ink z12.toNat z30=g.P.ink g_1 z30))/\True)/\∀ g_2:Nat,let z42:=(ce3 g g_1 g_2);let z33:=(↑g_2:Int);let z8:=(g.P.p g_1 z33.toNat);let z6:=(g.P.p g_1 g_2);let z5:=(ceR g z16 g_1 g_2);let z3:=(rwAt g.w z6+z6.x0.toNat); (ce2 g g_1).pre g_2->True/\Br (decide (z33<z21)) (A (z34<=z33/\z33<z21)/\T4 (True/\True/\A (z18<=z8.y*z43/\z8.y*z43<=z17)/\True/\A (z18<=z8.y*z43*z20/\z8.y*z43*z20<=z17)/\A (z34<=z8.y*z43*z20/\z8.y*z43*z20<=K z35/\K z35<=K z35/\K z35<=(↑z35:Int))/\T4 ((∃ g_3:Nat,let z22:=(rwAt g.w z6+g_3); A (z42.pre g_3)/\(z15/\True/\z0/\z10/\z32/\A z46/\z7/\z38/\(q4 z33)/\A z46/\(A ((z8.y*z43*z20).toNat=rwAt g.w z6)/\A ((K z35-z8.y*z43*z20).toNat=z19*g.w*g.h-rwAt g.w z6))/\(A z4/\A (z8.x0=(↑g_3:Int)))/\True)/\(A z14/\∀ i:Nat,i<z19*g.w*g.h->(((((((True/\A z2/\A (ceR g z16 g_1 g_2 i z11=put z5 z3 z22 z9 i z11))/\A z2/\A (ceR g z16 g_1 g_2 i z24=put z5 z3 z22 z9 i z24))/\A z2/\A (ceR g z16 g_1 g_2 i z25=put z5 z3 z22 z9 i z25))/\A z2/\A (ceR g z16 g_1 g_2 i z26=put z5 z3 z22 z9 i z26))/\A z2/\A (ceR g z16 g_1 g_2 i z27=put z5 z3 z22 z9 i z27))/\A z2/\A (ceR g z16 g_1 g_2 i z28=put z5 z3 z22 z9 i z28))/\A z2/\A (ceR g z16 g_1 g_2 i z29=put z5 z3 z22 z9 i z29))/\A z2/\A (ceR g z16 g_1 g_2 i z30=put z5 z3 z22 z9 i z30))/\z1/\(((True/\A z4/\A (z8.y=z6.y))/\A z4/\A (z8.x0=z6.x0))/\A z4/\A (z8.x1=z6.x1))/\True)/\∀ g_3:Nat,let z23:=(↑g_3:Int);let z13:=(rwAt g.w z6+g_3); z42.pre g_3->T4 (Br (decide (z23<z6.x1)) (T4 (A (z34<=z23/\z23<(↑(z19*g.w*g.h-rwAt g.w z6):Int))/\A (rwAt g.w z6+z23.toNat<z19*g.w*g.h)/\True/\A (z18<=z23+z45/\z23+z45<=z17)/\True/\∃ (g':Nat),let z31:=(rwAt g.w z6+g'); A (z42.pre g')/\((z15/\True/\z0/\z10/\z32/\A z46/\z7/\z38/\(q4 z33)/\A z46/\(A (rwAt g.w z6=rwAt g.w z6)/\A (z19*g.w*g.h-rwAt g.w z6=z19*g.w*g.h-rwAt g.w z6))/\(A z4/\A (z23+z45=(↑g':Int)))/\True)/\(A z14/\∀ i:Nat,i<z19*g.w*g.h->(((((((True/\A z2/\A ((bif decide (i=rwAt g.w z6+z23.toNat/\z11<=z11/\z11<z11+z44) then g.P.ink g_1 z11 else put z5 z3 z13 z9 i z11)=put z5 z3 z31 z9 i z11))/\A z2/\A ((bif decide (i=rwAt g.w z6+z23.toNat/\z11<=z24/\z24<z11+z44) then g.P.ink g_1 z24 else put z5 z3 z13 z9 i z24)=put z5 z3 z31 z9 i z24))/\A z2/\A ((bif decide (i=rwAt g.w z6+z23.toNat/\z11<=z25/\z25<z11+z44) then g.P.ink g_1 z25 else put z5 z3 z13 z9 i z25)=put z5 z3 z31 z9 i z25))/\A z2/\A ((bif decide (i=rwAt g.w z6+z23.toNat/\z11<=z26/\z26<z11+z44) then g.P.ink g_1 z26 else put z5 z3 z13 z9 i z26)=put z5 z3 z31 z9 i z26))/\A z2/\A ((bif decide (i=rwAt g.w z6+z23.toNat/\z11<=z27/\z27<z11+z44) then g.P.ink g_1 z27 else put z5 z3 z13 z9 i z27)=put z5 z3 z31 z9 i z27))/\A z2/\A ((bif decide (i=rwAt g.w z6+z23.toNat/\z11<=z28/\z28<z11+z44) then g.P.ink g_1 z28 else put z5 z3 z13 z9 i z28)=put z5 z3 z31 z9 i z28))/\A z2/\A ((bif decide (i=rwAt g.w z6+z23.toNat/\z11<=z29/\z29<z11+z44) then g.P.ink g_1 z29 else put z5 z3 z13 z9 i z29)=put z5 z3 z31 z9 i z29))/\A z2/\A ((bif decide (i=rwAt g.w z6+z23.toNat/\z11<=z30/\z30<z11+z44) then g.P.ink g_1 z30 else put z5 z3 z13 z9 i z30)=put z5 z3 z31 z9 i z30))/\z1/\(((True/\q4 z6.y)/\q4 z6.x0)/\q4 z6.x1)/\True)/\A (z42.meas g'<z42.meas g_3))) (A (z18<=z33+z45/\z33+z45<=z17)/\True/\∃ (g':Nat),A ((ce2 g g_1).pre g')/\((z15/\True/\z0/\z10/\z32/\A z46/\z7/\z38/\(A z4/\A (z33+z45=(↑g':Int)))/\True)/\(A z14/\∀ i:Nat,i<z19*g.w*g.h->(((((((True/\A z2/\A (put z5 z3 z13 z9 i z11=ceR g z16 g_1 g' i z11))/\A z2/\A (put z5 z3 z13 z9 i z24=ceR g z16 g_1 g' i z24))/\A z2/\A (put z5 z3 z13 z9 i z25=ceR g z16 g_1 g' i z25))/\A z2/\A (put z5 z3 z13 z9 i z26=ceR g z16 g_1 g' i z26))/\A z2/\A (put z5 z3 z13 z9 i z27=ceR g z16 g_1 g' i z27))/\A z2/\A (put z5 z3 z13 z9 i z28=ceR g z16 g_1 g' i z28))/\A z2/\A (put z5 z3 z13 z9 i z29=ceR g z16 g_1 g' i z29))/\A z2/\A (put z5 z3 z13 z9 i z30=ceR g z16 g_1 g' i z30))/\z1/\True)/\A ((ce2 g g_1).meas g'<(ce2 g g_1).meas g_2)))))) (A (z18<=z12+z45/\z12+z45<=z17)/\True/\∃ (g':Nat),A ((ce1 g).pre g')/\((z15/\True/\z0/\z10/\(A z4/\A (z12+z45=(↑g':Int)))/\True)/\(A z14/\∀ i:Nat,i<z19*g.w*g.h->(((((((True/\A z2/\A (ceR g z16 g_1 g_2 i z11=ceP g g' i z11))/\A z2/\A (ceR g z16 g_1 g_2 i z24=ceP g g' i z24))/\A z2/\A (ceR g z16 g_1 g_2 i z25=ceP g g' i z25))/\A z2/\A (ceR g z16 g_1 g_2 i z26=ceP g g' i z26))/\A z2/\A (ceR g z16 g_1 g_2 i z27=ceP g g' i z27))/\A z2/\A (ceR g z16 g_1 g_2 i z28=ceP g g' i z28))/\A z2/\A (ceR g z16 g_1 g_2 i z29=ceP g g' i z29))/\A z2/\A (ceR g z16 g_1 g_2 i z30=ceP g g' i z30))/\True)/\A ((ce1 g).meas g'<(ce1 g).meas g_1)))) (True/\True/\True/\(True/\True)/\(A z14/\∀ i:Nat,i<z19*g.w*g.h->(((((((True/\A z2/\A (ceP g g_1 i z11=ceB g i z11))/\A z2/\A (ceP g g_1 i z24=ceB g i z24))/\A z2/\A (ceP g g_1 i z25=ceB g i z25))/\A z2/\A (ceP g g_1 i z26=ceB g i z26))/\A z2/\A (ceP g g_1 i z27=ceB g i z27))/\A z2/\A (ceP g g_1 i z28=ceB g i z28))/\A z2/\A (ceP g g_1 i z29=ceB g i z29))/\A z2/\A (ceP g g_1 i z30=ceB g i z30))/\True))) ?_;simp only [chp];simp only [cln,lF,lS];simp only [xg];have hw:=hg.w;have hh:=hg.h;have hn:=hg.n;have e3:256*g.w*g.h<=256*256*256:=uI (Nat.mul_le_mul_left _ hw.2) hh.2;have c1:(256*(g.w:Int)*g.h)=((256*g.w*g.h:Nat):Int):=by simp
 rw [c1];refine ⟨by omega,by omega,by omega,⟨0,lC _,rfl,lF _,fun i _=>eight (a:=fun _=>0) (b:=ceP g 0 i) (fun j _=>rfl)⟩,fun k hk=>⟨fun hlt=>⟨by omega,⟨0,⟨by omega,lC _⟩,rfl,fun i _=>eight (fun j _=>rfl)⟩,fun r hr=>⟨fun hlt2=>?_,fun hge2=>?_⟩⟩,fun hge=>?_⟩⟩
 ·have hkn:k<g.P.n:=by omega
  have hrn:r<g.P.m k:=by omega
  obtain ⟨hy,hx,hx1⟩:=hg.r k r hkn hrn;have hm:=hg.m k hkn;generalize hrun:g.P.p k r=R at hy hx hx1;have ey:((R.y.toNat:Nat):Int)=R.y:=Int.toNat_of_nonneg hy.1;have c2:R.y*16*g.w=((rwAt g.w R:Nat):Int):=by
   unfold rwAt;rw [<-ey];simp [Int.mul_assoc]
  have h1:(R.y.toNat+1)*(16*g.w)<=256*g.w*g.h:=by
   refine lW (lk _ (show R.y.toNat+1<=16*g.h by omega)) (Nat.le_of_eq ?_);grind
  have h2:rwAt g.w R+16*g.w<=256*g.w*g.h:=by
   unfold rwAt;rw [lO,uF] at h1;exact h1
  rw [c2];refine ⟨by omega,by omega,by omega,by omega,⟨R.x0.toNat,⟨⟨hkn,hrn⟩,by rw [hrun]; omega,by rw [hrun]; omega⟩,⟨⟨lF _,by omega⟩,by omega⟩,fun i _=>eight (fun j _=>?_)⟩,fun x hx'=>?_⟩
  ·unfold put;rw [lg (by omega)];rfl
  ·obtain ⟨_,hxx⟩:=hx';rw [hrun] at hxx;refine ⟨fun hlt3=>⟨by omega,by omega,by omega,x+1,⟨⟨hkn,hrn⟩,by rw [hrun]; omega,by rw [hrun]; omega⟩,⟨by omega,fun i _=>?_⟩,?_⟩,fun hge3=>⟨by omega,r+1,⟨hkn,hrn⟩,⟨by omega,fun i _=>eight (fun j _=>?_)⟩,by show g.P.m k-(r+1)<g.P.m k-r; omega⟩⟩
   ·refine eight (a:=fun j=>bif decide (i=rwAt g.w R+x/\0<=j/\j<8) then g.P.ink k j else put (ceR g (ceP g k) k r) (rwAt g.w R+R.x0.toNat) (rwAt g.w R+x) (g.P.ink k) i j) (fun j hj=>?_);simp only [put];by_cases hi:i=rwAt g.w R+x
    ·rw [lj (show i=rwAt g.w R+x/\0<=j/\j<8 from ⟨hi,lC _,hj⟩),lj (show rwAt g.w R+R.x0.toNat<=i/\i<rwAt g.w R+(x+1) by omega)];rfl
    ·rw [lg (show ¬ (i=rwAt g.w R+x/\0<=j/\j<8) from fun h=>hi h.1)];simp only [cond_false];rw [show decide (rwAt g.w R+R.x0.toNat<=i/\i<rwAt g.w R+x)=decide (rwAt g.w R+R.x0.toNat<=i/\i<rwAt g.w R+(x+1)) from xS.2 (by omega)]
   ·show ((g.P.p k r).x1-((x+1:Nat):Int)).toNat<((g.P.p k r).x1-(x:Int)).toNat;rw [hrun];omega
   ·show _=put (ceR g (ceP g k) k r) (rwAt g.w (g.P.p k r)+(g.P.p k r).x0.toNat) (rwAt g.w (g.P.p k r)+(g.P.p k r).x1.toNat) (g.P.ink k) i j;rw [hrun,show R.x1.toNat=x by omega]
 ·have hr2:r<=g.P.m k:=hr.2;have hkn:k<g.P.n:=by omega
  refine ⟨by omega,k+1,hkn,⟨by omega,fun i _=>eight (fun j _=>?_)⟩,by show g.P.n-(k+1)<g.P.n-k; omega⟩;show _=ceR g (ceP g k) k (g.P.m k) i j;rw [show g.P.m k=r by omega]
 ·have hk2:k<=g.P.n:=hk;intro i _;refine eight (fun j _=>?_);show _=ceP g g.P.n i j;rw [show g.P.n=k by omega]
end Cel
namespace Ttr
open Go.RowKit Sx Num Aff Con Rga Rgl Rgm Rgn Rgc Gat Gar Ows Apl Apt Cel Wid Trp Tsp Tpn Tco
structure TrG where
 w:Nat
 h:Nat
 P:Pcs
 m:Nat
 o:Nat->Nat
 r:Nat
def TrG.ce (g:TrG):CeG:=⟨g.w,g.h,g.P⟩
def TrG.N (g:TrG):Nat:=256*g.w*g.h
def TrG.c (g:TrG):Nat->Vec:=ceB g.ce
def TrG.pl (g:TrG):PlG:=⟨16*g.w,16*g.h,g.c,g.m,g.o,g.r⟩
def dk (v:Vec) (m:Nat) (o:Nat->Nat):Nat->Bool
 | 0=>false
 | s+1=>dk v m o s||decide (v (o (m-1-s))≠0)
def tcF (v:Vec) (W:Nat->Int) (m:Nat) (o:Nat->Nat):Nat->Vec
 | 0=>v
 | s+1=>fun j=>bif (bif decide (v (o (m-1-s))=0) then dk v m o s else false)&&decide (j=o (m-1-s)) then W (m-1-s) else tcF v W m o s j
def TrG.W (g:TrG) (i k:Nat):Int:=spr (g.pl.sp k) i
def TrG.t (g:TrG) (i:Nat):Vec:=tcF (g.c i) (g.W i) g.m g.o g.m
def TrG.d (g:TrG) (a i:Nat):Vec:=fun j=>bif decide (i<a) then g.t i j else g.c i j
def TrG.of (g:TrG):OfG:=⟨g.w,g.h,g.N,g.d g.N⟩
structure TrG.Ok (g:TrG):Prop where
 w:1<=g.w/\g.w<=256
 h:1<=g.h/\g.h<=256
 ce:g.ce.Ok
 pl:g.pl.Ok
def trR (g:TrG) (f:Nat->Vec):SO:= .row 0 (256*g.w*g.h) 8 (fun i j=> .int .u8 (f i j)) 26
def trT (g:TrG) (a:Nat):List (Nat×SV):=[(0,.int .i64 g.w),(1,.int .i64 g.h),(3,orS g.m g.o),(14,.osl 0 0),(15,wiS g.pl),(34,.osl 0 0),(35,.int .i64 (256*g.w*g.h)),(36,.int .i64 a)]
def tr1 (g:TrG):Inv:=⟨Nat,fun a=>a<=g.N,fun a=>⟨trT g a,[trR g (g.d a)]⟩,fun a=>g.N-a⟩
def TrG.e (g:TrG) (a s i:Nat):Vec:=fun j=>bif decide (i=a) then tcF (g.c i) (g.W i) g.m g.o s j else g.d a i j
def trO (g:TrG) (a s:Nat):List SO:=[trR g (g.e a s),.cells 8 (fun j=> .int .u8 (g.c a j)) 26]
def tr2 (g:TrG) (a:Nat):Inv:=⟨Nat,fun s=>a<g.N/\s<=g.m,fun s=>⟨trT g a++[(16,.int .i64 a),(17,.own 1 0),(18,.bool (dk (g.c a) g.m g.o s)),(19,.int .i64 (g.m-1-s))],trO g a s⟩,fun s=>g.m-s⟩
def tr3 (g:TrG) (a s:Nat):Inv:=⟨Unit,fun _=>a<g.N/\s<g.m,fun _=>⟨trT g a++[(16,.int .i64 a),(17,.own 1 0),(18,.bool (dk (g.c a) g.m g.o s)),(19,.int .i64 (g.m-1-s)),(20,.int .i64 (g.o (g.m-1-s)))],trO g a (s+1)⟩,fun _=>0⟩
theorem aL6 (v:Vec) (W:Nat->Int) (m:Nat) (o:Nat->Nat) (s j:Nat):tcF v W m o (s+1) j=if (v (o (m-1-s))=0/\dk v m o s=true)/\j=o (m-1-s) then W (m-1-s) else tcF v W m o s j:=by
 show (bif (bif decide (v (o (m-1-s))=0) then dk v m o s else false)&&decide (j=o (m-1-s)) then W (m-1-s) else tcF v W m o s j)=_;by_cases h1:v (o (m-1-s))=0
 ·rw [lj h1,un];cases h2:dk v m o s with
  | false=>rw [lr fun h=>by cases h.1.2]; rfl
  | true=>
   by_cases h3:j=o (m-1-s)
   ·rw [lm ⟨⟨h1,rfl⟩,h3⟩,lj h3]; rfl
   ·rw [lr fun h=>h3 h.2,lg h3]; rfl
 ·rw [lg h1,lr fun h=>h1 h.1.1]; rfl
theorem b18 {g:TrG}{a s i j:Nat}(h:¬ (g.c a (g.o (g.m-1-s))=0/\dk (g.c a) g.m g.o s=true)):g.e a s i j=g.e a (s+1) i j:=by
 unfold TrG.e;by_cases hi:i=a
 ·subst hi;rw [lj rfl,un,un,aL6,lr fun hc=>h hc.1]
 ·rw [lg hi]; rfl
theorem e_set {g:TrG}{a s i j k:Nat}(hk:g.m-1-s=k) (h1:g.c a (g.o k)=0) (h2:dk (g.c a) g.m g.o s=true) {p:Prop}{inst:Decidable p}(hp:p<->i=a/\g.o k<=j/\j<g.o k+1):(bif @decide p inst then spr (g.pl.sp k) a else g.e a s i j)=g.e a (s+1) i j:=by
 subst hk;refine b29 (fun h=>?_) (fun h=>?_)
 ·obtain ⟨rfl,h3,h4⟩:=hp.1 h;unfold TrG.e;rw [lj rfl,un,aL6,lm ⟨⟨h1,h2⟩,by omega⟩];rfl
 ·unfold TrG.e;by_cases hi:i=a
  ·subst hi;rw [lj rfl,un,un,aL6,lr fun hc=>h (hp.2 ⟨rfl,by omega,by omega⟩)]
  ·rw [lg hi]; rfl
theorem bm4 {v:Vec}{m:Nat}{o:Nat->Nat}{s:Nat}:dk v m o (s+1)=(dk v m o s||decide (v (o (m-1-s))≠0)):=rfl
noncomputable def spTr:FSpec:=ab0 12 (γ:=TrG) (fun | [.int _ w,.int _ h,s,.sl m _ o,.int _ r,_]=>some ⟨w.toNat,h.toNat,pcD s,m,fun k=>(Sx.intOf (o k 0)).toNat,r.toNat⟩ | _=>none)
 (fun g=>[.int .i64 g.w,.int .i64 g.h,pcS g.P,orS g.m g.o,.int .i64 g.r,.int .i64 1]) TrG.Ok (fun g=>pcA (ofA g.of))
theorem ok_tr:aa7 Tw.prog spTr:=by
 refine ssW (specs:=[bE6,spPl,giv spOf]) (⟨bS7,ok_pl,aH6 cm1,trivial⟩) Tw.func12 (fun g=>(⟨[(4,.nest (tr1 g) (fun a=>[(8,.nest (tr2 g a) (fun s=>[(13,.cut (tr3 g a s))]))]))],[]⟩:Ann)) ?_;rintro g hg;refine ad5 (B:=let T5:=fun p:Prop=>True/\True/\True/\True/\True/\p;let K:=Br;let A:=Aq;let z52:=(16:Nat);let z42:=(ofA g.of);let z41:=(0:Int);let z40:=(z52*g.h);let z39:=(9223372036854775807:Int);let z37:=(-9223372036854775808:Int);let z34:=(16:Int);let z32:=(7:Nat);let z31:=(6:Nat);let z30:=(5:Nat);let z29:=(4:Nat);let z28:=(3:Nat);let z27:=(2:Nat);let z23:=(256:Nat);let z22:=(1:Int);let z21:=(↑g.m:Int);let z18:=(Gar.Gt.P z42);let z17:=(z23*g.w*g.h=z23*g.w*g.h);let z16:=(↑g.h:Int);let z50:=(z34*z16);let z15:=(↑g.w:Int);let z49:=(z34*z15);let z14:=(0:Nat);let z10:=(1:Nat);let z6:=(IntKind.i64=IntKind.i64);let q6:=fun p:Int=>A z6/\A (p=p);let z47:=(A z6/\A (z16=(↑z16.toNat:Int)));let z46:=(A z6/\A (z15=(↑z15.toNat:Int)));let z25:=(q6 z16);let z24:=(q6 z15);let z11:=(q6 ((256:Int)*z15*z16));let z9:=(A (g.m=g.m)/\∀ i:Nat,i<g.m->True/\q6 ((↑(g.o i):Int)));let z4:=(CeG.mk z15.toNat z16.toNat g.P);let z26:=(PlG.mk z49.toNat z50.toNat (ceB z4) g.m (fun (k:Nat)=>(↑(g.o k):Int).toNat) (↑g.r:Int).toNat);let z0:=(IntKind.u8=IntKind.u8);let q0:=fun p:Int=>A z0/\A (p=p);let z7:=(A (g.m=g.m)/\∀ i:Nat,i<g.m->True/\A (z52*g.w*z40=z52*g.w*z40)/\∀ i_1:Nat,i_1<z52*g.w*z40->True/\q0 (spr (g.pl.sp i) i_1));T5 (((z46/\z47/\(A (g.P.n=g.P.n)/\∀ i:Nat,i<g.P.n->(chp (True/\A (g.P.m i=g.P.m i)/\∀ i_1:Nat,let z44:=(g.P.p i i_1); i_1<g.P.m i->((True/\q6 z44.y)/\q6 z44.x0)/\q6 z44.x1) (fun j:Nat=>q0 (g.P.ink i j)) 7)/\q0 (g.P.ink i z32))/\True)/\A z4.Ok)/\True/\True/\True/\A (z37<=z34*z15/\z34*z15<=z39)/\True/\A (z37<=z34*z16/\z34*z16<=z39)/\True/\True/\True/\((True/\(True/\(A z6/\A (z34*z15=(↑z49.toNat:Int)))/\(A z6/\A (z34*z16=(↑z50.toNat:Int)))/\(A (g.m=g.m)/\∀ i:Nat,i<g.m->True/\A z6/\A ((↑(g.o i):Int)=(↑(↑(g.o i):Int).toNat:Int)))/\(A z6/\A ((↑g.r:Int)=(↑(↑g.r:Int).toNat:Int)))/\(q6 z22)/\True)/\(A (z23*z15.toNat*z16.toNat=z49.toNat*z50.toNat)/\∀ i:Nat,i<z49.toNat*z50.toNat->(chp True (fun j:Nat=>q0 (ceB z4 i j)) 7)/\q0 (ceB z4 i z32))/\True)/\A z26.Ok)/\True/\True/\True/\True/\(∃ g_1:Nat,A ((tr1 g).pre g_1)/\(z24/\z25/\z9/\True/\(A (g.m=g.m)/\∀ i:Nat,i<g.m->True/\A (z49.toNat*z50.toNat=z52*g.w*z40)/\∀ i_1:Nat,i_1<z52*g.w*z40->True/\A z0/\A (spr (z26.sp i) i_1=spr (g.pl.sp i) i_1))/\True/\(A z6/\A ((↑(z49.toNat*z50.toNat):Int)=(256:Int)*z15*z16))/\(A z6/\A (z41=(↑g_1:Int)))/\True)/\(A (z49.toNat*z50.toNat=z23*g.w*g.h)/\∀ i:Nat,i<z23*g.w*g.h->(((((((True/\A z0/\A (ceB z4 i z14=g.d g_1 i z14))/\A z0/\A (ceB z4 i z10=g.d g_1 i z10))/\A z0/\A (ceB z4 i z27=g.d g_1 i z27))/\A z0/\A (ceB z4 i z28=g.d g_1 i z28))/\A z0/\A (ceB z4 i z29=g.d g_1 i z29))/\A z0/\A (ceB z4 i z30=g.d g_1 i z30))/\A z0/\A (ceB z4 i z31=g.d g_1 i z31))/\A z0/\A (ceB z4 i z32=g.d g_1 i z32))/\True)/\∀ g_1:Nat,let z43:=(tr2 g g_1);let z12:=(↑g_1:Int);let z51:=(z41<=z12/\z12<(↑(z23*g.w*g.h):Int));let z20:=(q6 z12);let z5:=(ofA (OfG.mk z15.toNat z16.toNat (z23*g.w*g.h) (g.d g_1)));let z36:=(Gar.Gt.P z5);let z2:=(chp True (fun j:Nat=>q0 (g.c g_1 j)) 8); (tr1 g).pre g_1->True/\K (decide (z12<(256:Int)*z15*z16)) (True/\A z51/\A (z12.toNat<z23*g.w*g.h)/\T5 (True/\A (z37<=z21-z22/\z21-z22<=z39)/\True/\(∃ g_2:Nat,A (z43.pre g_2)/\(z24/\z25/\z9/\True/\z7/\True/\z11/\z20/\z20/\A (z14=z14)/\A (false=dk (g.c g_1) g.m g.o g_2)/\(A z6/\A (z21-z22=z21-z22-(↑g_2:Int)))/\True)/\(A z17/\∀ i:Nat,i<z23*g.w*g.h->(((((((True/\A z0/\A (g.d g_1 i z14=g.e g_1 g_2 i z14))/\A z0/\A (g.d g_1 i z10=g.e g_1 g_2 i z10))/\A z0/\A (g.d g_1 i z27=g.e g_1 g_2 i z27))/\A z0/\A (g.d g_1 i z28=g.e g_1 g_2 i z28))/\A z0/\A (g.d g_1 i z29=g.e g_1 g_2 i z29))/\A z0/\A (g.d g_1 i z30=g.e g_1 g_2 i z30))/\A z0/\A (g.d g_1 i z31=g.e g_1 g_2 i z31))/\A z0/\A (g.d g_1 i z32=g.e g_1 g_2 i z32))/\((((((((True/\A z0/\A (g.d g_1 z12.toNat (z14+z14)=g.c g_1 z14))/\A z0/\A (g.d g_1 z12.toNat (z14+z10)=g.c g_1 z10))/\A z0/\A (g.d g_1 z12.toNat (z14+z27)=g.c g_1 z27))/\A z0/\A (g.d g_1 z12.toNat (z14+z28)=g.c g_1 z28))/\A z0/\A (g.d g_1 z12.toNat (z14+z29)=g.c g_1 z29))/\A z0/\A (g.d g_1 z12.toNat (z14+z30)=g.c g_1 z30))/\A z0/\A (g.d g_1 z12.toNat (z14+z31)=g.c g_1 z31))/\A z0/\A (g.d g_1 z12.toNat (z14+z32)=g.c g_1 z32))/\True)/\∀ g_2:Nat,let z53:=(tr3 g g_1 g_2);let z38:=(↑g_2:Int);let z48:=(z41<=z21-z22-z38/\z21-z22-z38<z21);let z35:=(↑(g.o (g.m-z10-g_2)):Int);let z33:=(z37<=z21-z22-z38-z22/\z21-z22-z38-z22<=z39);let z19:=(g_2+z10);let z13:=(g.pl.sp (z21-z22-z38).toNat);let z8:=(A z17/\∀ i:Nat,i<z23*g.w*g.h->(((((((True/\A z0/\A (g.e g_1 g_2 i z14=g.e g_1 z19 i z14))/\A z0/\A (g.e g_1 g_2 i z10=g.e g_1 z19 i z10))/\A z0/\A (g.e g_1 g_2 i z27=g.e g_1 z19 i z27))/\A z0/\A (g.e g_1 g_2 i z28=g.e g_1 z19 i z28))/\A z0/\A (g.e g_1 g_2 i z29=g.e g_1 z19 i z29))/\A z0/\A (g.e g_1 g_2 i z30=g.e g_1 z19 i z30))/\A z0/\A (g.e g_1 g_2 i z31=g.e g_1 z19 i z31))/\A z0/\A (g.e g_1 g_2 i z32=g.e g_1 z19 i z32));let z3:=(↑(g.o (z21-z22-z38).toNat):Int);let z54:=(z41<=z3/\z3<(↑(8:Nat):Int));let z45:=(decide (z14+z3.toNat*z10+z10<=(8:Nat)));let z1:=(z24/\z25/\z9/\True/\z7/\True/\z11/\z20/\z20/\A (z14=z14)/\A (dk (g.c g_1) g.m g.o g_2=dk (g.c g_1) g.m g.o g_2)/\(q6 (z21-z22-z38))/\(A z6/\A (z3=z35))/\True); z43.pre g_2->True/\True/\K (decide (z41<=z21-z22-z38)) (True/\True/\A z48/\True/\True/\(True/\A z54/\K z45 True False/\True/\True/\K (decide (g.c g_1 (z14+z3.toNat*z10)=z41)) (True/\True/\K (dk (g.c g_1) g.m g.o g_2) (T5 (A z48/\True/\True/\A (z41<=z12/\z12<(↑(z52*g.w*z40):Int))/\True/\A z51/\A z54/\K z45 (A (z12.toNat<z23*g.w*g.h)) False/\∃ g_3:Unit,A (z53.pre g_3)/\z1/\(A z17/\∀ i:Nat,i<z23*g.w*g.h->(((((((True/\A z0/\A ((bif decide (i=z12.toNat/\z14+z3.toNat*z10<=z14/\z14<z14+z3.toNat*z10+z10) then spr z13 z12.toNat else g.e g_1 g_2 i z14)=g.e g_1 z19 i z14))/\A z0/\A ((bif decide (i=z12.toNat/\z14+z3.toNat*z10<=z10/\z10<z14+z3.toNat*z10+z10) then spr z13 z12.toNat else g.e g_1 g_2 i z10)=g.e g_1 z19 i z10))/\A z0/\A ((bif decide (i=z12.toNat/\z14+z3.toNat*z10<=z27/\z27<z14+z3.toNat*z10+z10) then spr z13 z12.toNat else g.e g_1 g_2 i z27)=g.e g_1 z19 i z27))/\A z0/\A ((bif decide (i=z12.toNat/\z14+z3.toNat*z10<=z28/\z28<z14+z3.toNat*z10+z10) then spr z13 z12.toNat else g.e g_1 g_2 i z28)=g.e g_1 z19 i z28))/\A z0/\A ((bif decide (i=z12.toNat/\z14+z3.toNat*z10<=z29/\z29<z14+z3.toNat*z10+z10) then spr z13 z12.toNat else g.e g_1 g_2 i z29)=g.e g_1 z19 i z29))/\A z0/\A ((bif decide (i=z12.toNat/\z14+z3.toNat*z10<=z30/\z30<z14+z3.toNat*z10+z10) then spr z13 z12.toNat else g.e g_1 g_2 i z30)=g.e g_1 z19 i z30))/\A z0/\A ((bif decide (i=z12.toNat/\z14+z3.toNat*z10<=z31/\z31<z14+z3.toNat*z10+z10) then spr z13 z12.toNat else g.e g_1 g_2 i z31)=g.e g_1 z19 i z31))/\A z0/\A ((bif decide (i=z12.toNat/\z14+z3.toNat*z10<=z32/\z32<z14+z3.toNat*z10+z10) then spr z13 z12.toNat else g.e g_1 g_2 i z32)=g.e g_1 z19 i z32))/\z2/\True)) (∃ g_3:Unit,A (z53.pre g_3)/\z1/\z8/\z2/\True)) (True/\∃ g_3:Unit,A (z53.pre g_3)/\z1/\z8/\z2/\True))/\∀ g_3:Unit,z53.pre g_3->True/\True/\K (dk (g.c g_1) g.m g.o g_2) (True/\True/\True/\A z33/\True/\∃ (g':Nat),A (z43.pre g')/\((z24/\z25/\z9/\True/\z7/\True/\z11/\z20/\z20/\A (z14=z14)/\A (true=dk (g.c g_1) g.m g.o g')/\(A z6/\A (z21-z22-z38-z22=z21-z22-(↑g':Int)))/\True)/\(A z17/\∀ i:Nat,i<z23*g.w*g.h->(((((((True/\A z0/\A (g.e g_1 z19 i z14=g.e g_1 g' i z14))/\A z0/\A (g.e g_1 z19 i z10=g.e g_1 g' i z10))/\A z0/\A (g.e g_1 z19 i z27=g.e g_1 g' i z27))/\A z0/\A (g.e g_1 z19 i z28=g.e g_1 g' i z28))/\A z0/\A (g.e g_1 z19 i z29=g.e g_1 g' i z29))/\A z0/\A (g.e g_1 z19 i z30=g.e g_1 g' i z30))/\A z0/\A (g.e g_1 z19 i z31=g.e g_1 g' i z31))/\A z0/\A (g.e g_1 z19 i z32=g.e g_1 g' i z32))/\z2/\True)/\A (z43.meas g'<z43.meas g_2)) (True/\A (z41<=z35/\z35<(↑(8:Nat):Int))/\K (decide (z14+z35.toNat*z10+z10<=(8:Nat))) True False/\True/\True/\True/\True/\A z33/\True/\∃ (g':Nat),A (z43.pre g')/\((z24/\z25/\z9/\True/\z7/\True/\z11/\z20/\z20/\A (z14=z14)/\A (decide (g.c g_1 (z14+z35.toNat*z10)≠z41)=dk (g.c g_1) g.m g.o g')/\(A z6/\A (z21-z22-z38-z22=z21-z22-(↑g':Int)))/\True)/\(A z17/\∀ i:Nat,i<z23*g.w*g.h->(((((((True/\A z0/\A (g.e g_1 z19 i z14=g.e g_1 g' i z14))/\A z0/\A (g.e g_1 z19 i z10=g.e g_1 g' i z10))/\A z0/\A (g.e g_1 z19 i z27=g.e g_1 g' i z27))/\A z0/\A (g.e g_1 z19 i z28=g.e g_1 g' i z28))/\A z0/\A (g.e g_1 z19 i z29=g.e g_1 g' i z29))/\A z0/\A (g.e g_1 z19 i z30=g.e g_1 g' i z30))/\A z0/\A (g.e g_1 z19 i z31=g.e g_1 g' i z31))/\A z0/\A (g.e g_1 z19 i z32=g.e g_1 g' i z32))/\z2/\True)/\A (z43.meas g'<z43.meas g_2))) (A (z37<=z12+z22/\z12+z22<=z39)/\True/\∃ (g':Nat),A ((tr1 g).pre g')/\((z24/\z25/\z9/\True/\z7/\True/\z11/\(A z6/\A (z12+z22=(↑g':Int)))/\True)/\(A z17/\∀ i:Nat,i<z23*g.w*g.h->(((((((True/\A z0/\A (g.e g_1 g_2 i z14=g.d g' i z14))/\A z0/\A (g.e g_1 g_2 i z10=g.d g' i z10))/\A z0/\A (g.e g_1 g_2 i z27=g.d g' i z27))/\A z0/\A (g.e g_1 g_2 i z28=g.d g' i z28))/\A z0/\A (g.e g_1 g_2 i z29=g.d g' i z29))/\A z0/\A (g.e g_1 g_2 i z30=g.d g' i z30))/\A z0/\A (g.e g_1 g_2 i z31=g.d g' i z31))/\A z0/\A (g.e g_1 g_2 i z32=g.d g' i z32))/\True)/\A ((tr1 g).meas g'<(tr1 g).meas g_1)))) (True/\True/\True/\((z46/\z47/\(A z17/\∀ i:Nat,i<z23*g.w*g.h->(chp True (fun j:Nat=>q0 (g.d g_1 i j)) 7)/\q0 (g.d g_1 i z32))/\True)/\A ((z10<=z15.toNat/\z15.toNat<=z23)/\(z10<=z16.toNat/\z16.toNat<=z23)/\z23*g.w*g.h=z23*z15.toNat*z16.toNat))/\T5 ((True/\A ((bif z5.full then z14 else z5.n)=bif z42.full then z14 else z42.n)/\∀ i:Nat,(i<bif z42.full then z14 else z42.n)->((((((((True/\A (z36.m i=z18.m i)/\∀ i_1:Nat,i_1<z18.m i->((True/\A z6/\A ((z36.p i i_1).y=(z18.p i i_1).y))/\A z6/\A ((z36.p i i_1).x0=(z18.p i i_1).x0))/\A z6/\A ((z36.p i i_1).x1=(z18.p i i_1).x1))/\A z0/\A (z36.ink i z14=z18.ink i z14))/\A z0/\A (z36.ink i z10=z18.ink i z10))/\A z0/\A (z36.ink i z27=z18.ink i z27))/\A z0/\A (z36.ink i z28=z18.ink i z28))/\A z0/\A (z36.ink i z29=z18.ink i z29))/\A z0/\A (z36.ink i z30=z18.ink i z30))/\A z0/\A (z36.ink i z31=z18.ink i z31))/\A z0/\A (z36.ink i z32=z18.ink i z32))/\A z6/\A ((bif z5.full then (2:Int) else z41)=bif z42.full then (2:Int) else z41))))) ?_;simp only [chp];simp only [cln,lF,lS,xg];have hw:=hg.w;have hh:=hg.h;have hm:=hg.pl.m;have hm:g.m<=8:=hm;have ew:(16*(g.w:Int)).toNat=16*g.w:=by omega
 have eh:(16*(g.h:Int)).toNat=16*g.h:=by omega
 have eN:16*g.w*(16*g.h)=256*g.w*g.h:=by grind
 have eI:256*(g.w:Int)*(g.h:Int)=((256*g.w*g.h:Nat):Int):=by simp
 have hN:256*g.w*g.h<=256*256*256:=uI (Nat.mul_le_mul_left _ hw.2) hh.2;have hNd:g.N=256*g.w*g.h:=rfl;rw [ew,eh,eI];refine ⟨hg.ce,by omega,by omega,⟨⟨⟨by omega,by omega⟩,eN.symm⟩,hg.pl⟩,⟨0,lC _,⟨fun i _=>⟨rfl,fun _ _=>rfl⟩,by rw [eN],rfl⟩,eN,fun i _=>eight (a:=ceB ⟨g.w,g.h,g.P⟩ i) (fun j _=>?_)⟩,fun a ha=>⟨fun hlt=>?_,fun hge=>?_⟩⟩
 ·show _=bif decide (i<0) then _ else _
  rw [lg (ln _)];rfl
 ·have han:a<g.N:=by omega
  refine ⟨by omega,by omega,by omega,⟨0,⟨han,lC _⟩,⟨rfl,by omega⟩,fun i _=>eight (fun j _=>?_),eight (a:=g.d a a) (fun j _=>?_)⟩,fun s hs=>⟨fun hs1=>?_,fun hs1=>?_⟩⟩
  ·unfold TrG.e;by_cases hi:i=a
   ·subst hi;rw [lj rfl,un];show (bif decide (i<i) then _ else _)=_;rw [lg (xr _)];rfl
   ·rw [lg hi]; rfl
  ·show (bif decide (a<a) then _ else _)=_;rw [lg (xr _)];rfl
  ·obtain ⟨_,hsm⟩:=hs;have hsm:s<g.m:=by omega
   have ek:((g.m:Int)-1-(s:Int)).toNat=g.m-1-s:=by omega
   rw [ek];generalize hk:g.m-1-s=k;have hkm:k<g.m:=by omega
   have ho:g.o k<8:=hg.pl.o k hkm;have han':a<256*g.w*g.h:=han;have hpre:(tr3 g a s).pre ():=⟨han,hsm⟩
   have hms:(tr2 g a).meas (s+1)<(tr2 g a).meas s:=by show g.m-(s+1)<g.m-s; omega
   have hpre2:(tr2 g a).pre (s+1):=⟨han,hsm⟩
   have fin:∀ i,i<256*g.w*g.h->_:=fun i _=>eight (a:=g.e a (s+1) i) (b:=g.e a (s+1) i) (fun _ _=>rfl)
   refine ⟨by omega,⟨by omega,fun h=>h (by omega),fun hz=>⟨fun hd=>⟨by omega,by omega,by omega,by omega,⟨fun _=>han',fun h=>h (by omega)⟩,(),hpre,rfl,fun i _=>?_⟩,fun hd=>⟨(),hpre,rfl,fun i _=>eight fun j _=>b18 fun hc=>by rw [hd] at hc; cases hc.2⟩⟩,fun hz=>⟨(),hpre,rfl,fun i _=>eight fun j _=>b18 fun hc=>hz (by rw [<-hk]; exact hc.1)⟩⟩,fun _ _=>⟨fun hd=>⟨by omega,s+1,hpre2,⟨⟨by rw [bm4,hd]; rfl,by omega⟩,fin⟩,hms⟩,fun hd=>⟨by omega,fun h=>h (by omega),by omega,s+1,hpre2,⟨⟨by rw [bm4,hd,hk]; rfl,by omega⟩,fin⟩,hms⟩⟩⟩;have es:=fun j (p:Prop) (inst:Decidable p) (hp:p<->i=a/\g.o k<=j/\j<g.o k+1)=>e_set (inst:=inst) hk hz hd (i:=i) (j:=j) hp
   exact ⟨⟨⟨⟨⟨⟨⟨es 0 _ _ uP,es 1 _ _ uP⟩,es 2 _ _ uP⟩,es 3 _ _ uP⟩,es 4 _ _ uP⟩,es 5 _ _ uP⟩,es 6 _ _ uP⟩,es 7 _ _ uP⟩
  ·obtain ⟨_,hsm⟩:=hs;obtain rfl:s=g.m:=by omega
   refine ⟨by omega,a+1,han,⟨rfl,fun i _=>eight (fun j _=>?_)⟩,by show g.N-(a+1)<g.N-a; omega⟩;unfold TrG.e TrG.d;by_cases hi:i=a
   ·subst hi;rw [lj rfl,lj (xB _)];rfl
   ·rw [lg hi,show decide (i<a+1)=decide (i<a) from xS.2 (by omega)];rfl
 ·have ha:a<=g.N:=ha;obtain rfl:a=g.N:=by omega
  refine ⟨⟨hw,hh⟩,⟨rfl,fun i _=>?_⟩,rfl⟩;exact ⟨⟨⟨⟨⟨⟨⟨⟨⟨rfl,fun _ _=>⟨⟨rfl,rfl⟩,rfl⟩⟩,rfl⟩,rfl⟩,rfl⟩,rfl⟩,rfl⟩,rfl⟩,rfl⟩,rfl⟩
def TrG.ck (g:TrG):CkG:=⟨g.w,g.h,⟨g.P,g.m,g.o⟩,g.r⟩
noncomputable def b42 (dec:List SV->Option TrG):FSpec:=ab0 7 (γ:=TrG) dec
 (fun g=>[.int .i64 g.w,.int .i64 g.h,pcS g.P,orS g.m g.o,.int .i64 g.r]) (fun g=>g.Ok/\g.ck.Ok) (fun g=>pcA (ofA g.of))
theorem bq5 (dec:List SV->Option TrG):aa7 Tw.prog (b42 dec):=by
 refine ssW (specs:=[spCk,spTr]) (⟨ok_ck,ok_tr,trivial⟩) Tw.func7 (fun g=>A0) ?_;rintro g ⟨hg,hc⟩;refine ad5 (B:=let A:=Aq;let z11:=(ofA g.of);let z6:=(TrG.mk (↑g.w:Int).toNat (↑g.h:Int).toNat g.P g.m (fun (k:Nat)=>(↑(g.o k):Int).toNat) (↑g.r:Int).toNat);let z4:=(Gar.Gt.P z11);let z3:=(IntKind.u8=IntKind.u8);let q3:=fun p:Int=>A z3/\A (p=p);let z2:=(IntKind.i64=IntKind.i64);let q2:=fun p:Int=>A z2/\A (p=p);let z10:=(A z2/\A ((↑g.r:Int)=(↑(↑g.r:Int).toNat:Int)));let z9:=(A z2/\A ((↑g.h:Int)=(↑(↑g.h:Int).toNat:Int)));let z8:=(A z2/\A ((↑g.w:Int)=(↑(↑g.w:Int).toNat:Int)));let z5:=(A (g.m=g.m)/\∀ i:Nat,i<g.m->True/\A z2/\A ((↑(g.o i):Int)=(↑(↑(g.o i):Int).toNat:Int)));let z1:=(A (g.P.n=g.P.n)/\∀ i:Nat,i<g.P.n->(chp (True/\A (g.P.m i=g.P.m i)/\∀ i_1:Nat,let z12:=(g.P.p i i_1); i_1<g.P.m i->((True/\q2 z12.y)/\q2 z12.x0)/\q2 z12.x1) (fun j:Nat=>q3 (g.P.ink i j)) 7)/\q3 (g.P.ink i (7:Nat)));let z0:=(ofA z6.of);let z7:=(Gar.Gt.P z0);True/\True/\True/\True/\True/\True/\True/\((z8/\z9/\z1/\z5/\z10/\True)/\A (CkG.mk (↑g.w:Int).toNat (↑g.h:Int).toNat (CoG.mk g.P g.m fun (k:Nat)=>(↑(g.o k):Int).toNat) (↑g.r:Int).toNat).Ok)/\True/\True/\True/\True/\True/\True/\True/\True/\((z8/\z9/\z1/\z5/\z10/\(q2 ((1:Int)))/\True)/\A z6.Ok)/\True/\True/\True/\True/\True/\(True/\A ((bif z0.full then (0:Nat) else z0.n)=bif z11.full then (0:Nat) else z11.n)/\∀ i:Nat,(i<bif z11.full then (0:Nat) else z11.n)->((((((((True/\A (z7.m i=z4.m i)/\∀ i_1:Nat,i_1<z4.m i->((True/\A z2/\A ((z7.p i i_1).y=(z4.p i i_1).y))/\A z2/\A ((z7.p i i_1).x0=(z4.p i i_1).x0))/\A z2/\A ((z7.p i i_1).x1=(z4.p i i_1).x1))/\A z3/\A (z7.ink i (0:Nat)=z4.ink i (0:Nat)))/\A z3/\A (z7.ink i (1:Nat)=z4.ink i (1:Nat)))/\A z3/\A (z7.ink i (2:Nat)=z4.ink i (2:Nat)))/\A z3/\A (z7.ink i (3:Nat)=z4.ink i (3:Nat)))/\A z3/\A (z7.ink i (4:Nat)=z4.ink i (4:Nat)))/\A z3/\A (z7.ink i (5:Nat)=z4.ink i (5:Nat)))/\A z3/\A (z7.ink i (6:Nat)=z4.ink i (6:Nat)))/\A z3/\A (z7.ink i (7:Nat)=z4.ink i (7:Nat)))/\A z2/\A ((bif z0.full then (2:Int) else (0:Int))=bif z11.full then (2:Int) else (0:Int))) ?_;simp only [chp];simp only [cln,lF,lS,xg];exact ⟨hc,hg⟩
noncomputable def bX3:FSpec:=b42 (fun | [.int _ w,.int _ h,s,.sl m _ o,.int _ r]=>some ⟨w.toNat,h.toNat,pcD s,m,fun k=>(Sx.intOf (o k 0)).toNat,r.toNat⟩ | _=>none)
theorem b86:aa7 Tw.prog bX3:=bq5 _
end Ttr
namespace Pcs
open Go.RowKit Sx Num Aff Con Rga Gat Gar Cel
structure PiG where
 w:Nat
 n:Nat
 f:Nat->Vec
 k:Int
def three (v:Vec):Vec:=fun j=>if j=0 then v 0 else if j=1 then v 1 else if j=2 then v 2 else 0
def PiG.at' (g:PiG) (i:Nat):Nat:=(i / (cutI g.k 1 40).toNat+i / (16*g.w) / 3) % g.n
def PiG.cel (g:PiG) (i:Nat):Vec:=if 0<g.n then three (g.f (g.at' i)) else fun _=>0
def PiG.of (g:PiG):OfG:=⟨g.w,1,256*g.w,fun i j=>if i<256*g.w then g.cel i j else 0⟩
structure PiG.Ok (g:PiG):Prop where
 w:1<=g.w/\g.w<=2
 n:g.n<=17592186044416
def piI (g:PiG):Inv:=⟨Nat,fun i=>i<=256*g.w,fun i=>⟨[(0,.int .i64 g.w),(1,a69 g.n g.f),(2,.int .i64 (cutI g.k 1 40)),(7,.osl 0 0),(18,.int .i64 (256*g.w)),(19,.int .i64 i)],
 [.row 0 (256*g.w) 8 (fun a j=> .int .u8 (if a<i then g.cel a j else 0)) 26]⟩,fun i=>256*g.w-i⟩
noncomputable def spPc:FSpec:=ab0 6 (γ:=PiG) (fun | [.int _ w,s,.int _ k]=>some ⟨w.toNat,aj5 s,bV2 s,k⟩ | _=>none) (fun g=>[.int .i64 g.w,a69 g.n g.f,.int .i64 g.k]) PiG.Ok (fun g=>pcS (Gt.P (ofA g.of)))
theorem ok_pc:aa7 Tw.prog spPc:=by
 refine ssW (specs:=[b69,giv spOf]) (⟨bZ4,aH6 cm1,trivial⟩) Tw.func6 (fun g=>(⟨[(4,.inv (piI g))],[]⟩:Ann)) ?_;rintro g hg;refine ad5 (B:=let K:=Int.toNat;let A:=Aq;let z30:=(ofA g.of);let z29:=(↑(8:Nat):Int);let z28:=(40:Int);let z26:=(↑g.n:Int);let z25:=(7:Nat);let z24:=(6:Nat);let z23:=(5:Nat);let z22:=(4:Nat);let z21:=(3:Nat);let z20:=(2:Nat);let z18:=(1:Nat);let z16:=(256:Int);let z14:=(256:Nat);let z32:=(z14*g.w=z14*g.w);let z13:=(1:Int);let z19:=(cutI g.k z13 z28);let z11:=(-9223372036854775808:Int);let z10:=(9223372036854775807:Int);let z9:=(0:Nat);let z7:=(Gar.Gt.P z30);let z6:=(↑g.w:Int);let z5:=(IntKind.i64=IntKind.i64);let q5:=fun p:Int=>A z5/\A (p=p);let z31:=(q5 (z16*z6));let z27:=(q5 z6);let z12:=(q5 (cutI g.k z13 z28));let z3:=(0:Int);let z2:=(IntKind.u8=IntKind.u8);let q2:=fun p:Int=>A z2/\A (p=p);let z1:=(A (g.n=g.n)/\∀ i:Nat,i<g.n->(chp True (fun j:Nat=>q2 (g.f i j)) 7)/\q2 (g.f i z25));True/\True/\A (z11<=z16*z6/\z16*z6<=z10)/\A (z3<=z16*z6/\z16*z6<=z16*z6/\z29*(z16*z6)<=(140737488355328:Int)/\z16*z6<=z10)/\True/\True/\(((q5 g.k)/\(q5 z13)/\(q5 z28)/\True)/\A (((-2305843009213693952:Int)<=z13/\z13<=z28)/\z28<=(4611686018427387903:Int)/\z28-z13<=(4611686018427387903:Int)))/\True/\True/\True/\True/\(∃ g_1:Nat,A ((piI g).pre g_1)/\(z27/\z1/\z12/\True/\(A z5/\A ((↑(z16*z6).toNat:Int)=z16*z6))/\(A z5/\A (z3=(↑g_1:Int)))/\True)/\(A ((z16*z6).toNat=z14*g.w)/\∀ i:Nat,i<z14*g.w->(chp True (fun j:Nat=>A z2/\A (z3=if i<g_1 then g.cel i j else z3)) 7)/\A z2/\A (z3=if i<g_1 then g.cel i z25 else z3))/\True)/\∀ g_1:Nat,let z8:=(↑g_1:Int);let z17:=(z8.tdiv ((16:Int)*z6));let z4:=(z8.tdiv z19+z17.tdiv (3:Int));let z0:=(ofA (OfG.mk z6.toNat (K z13) (z14*g.w) fun (i j:Nat)=>if i<g_1 then g.cel i j else z3));let z15:=(Gar.Gt.P z0); (piI g).pre g_1->True/\Br (decide (z8<z16*z6)) (True/\True/\True/\True/\True/\Br (decide (z3<z26)) (True/\True/\True/\A (cutI g.k z13 z28≠z3/\z11<=z8.tdiv z19/\z8.tdiv z19<=z10)/\True/\True/\A (z11<=(16:Int)*z6/\(16:Int)*z6<=z10)/\A ((16:Int)*z6≠z3/\z11<=z8.tdiv ((16:Int)*z6)/\z8.tdiv ((16:Int)*z6)<=z10)/\A ((3:Int)≠z3/\z11<=z17.tdiv (3:Int)/\z17.tdiv (3:Int)<=z10)/\A (z11<=z8.tdiv z19+z17.tdiv (3:Int)/\z8.tdiv z19+z17.tdiv (3:Int)<=z10)/\True/\True/\A (z26≠z3)/\A (z3<=z4.tmod z26/\z4.tmod z26<z26)/\True/\True/\True/\True/\True/\A (z3<=z3/\z3<z29)/\True/\A (z3<=z13/\z13<z29)/\True/\A (z3<=(2:Int)/\(2:Int)<z29)/\True/\True/\A (z3<=z8/\z8<(↑(z14*g.w):Int))/\A (z8.toNat<z14*g.w)/\A (z11<=z8+z13/\z8+z13<=z10)/\True/\∃ (g':Nat),A ((piI g).pre g')/\((z27/\z1/\z12/\True/\z31/\(A z5/\A (z8+z13=(↑g':Int)))/\True)/\(A z32/\∀ i:Nat,i<z14*g.w->(((((((True/\A z2/\A ((bif decide (i=z8.toNat/\z9<=z9/\z9<z9+(8:Nat)) then g.f (z4.tmod z26).toNat (z9+(z9+K z3*z18)) else if i<g_1 then g.cel i z9 else z3)=if i<g' then g.cel i z9 else z3))/\A z2/\A ((bif decide (i=z8.toNat/\z9<=z18/\z18<z9+(8:Nat)) then g.f (z4.tmod z26).toNat (z9+(z9+K z13*z18)) else if i<g_1 then g.cel i z18 else z3)=if i<g' then g.cel i z18 else z3))/\A z2/\A ((bif decide (i=z8.toNat/\z9<=z20/\z20<z9+(8:Nat)) then g.f (z4.tmod z26).toNat (z9+(z9+K (2:Int)*z18)) else if i<g_1 then g.cel i z20 else z3)=if i<g' then g.cel i z20 else z3))/\A z2/\A ((bif decide (i=z8.toNat/\z9<=z21/\z21<z9+(8:Nat)) then z3 else if i<g_1 then g.cel i z21 else z3)=if i<g' then g.cel i z21 else z3))/\A z2/\A ((bif decide (i=z8.toNat/\z9<=z22/\z22<z9+(8:Nat)) then z3 else if i<g_1 then g.cel i z22 else z3)=if i<g' then g.cel i z22 else z3))/\A z2/\A ((bif decide (i=z8.toNat/\z9<=z23/\z23<z9+(8:Nat)) then z3 else if i<g_1 then g.cel i z23 else z3)=if i<g' then g.cel i z23 else z3))/\A z2/\A ((bif decide (i=z8.toNat/\z9<=z24/\z24<z9+(8:Nat)) then z3 else if i<g_1 then g.cel i z24 else z3)=if i<g' then g.cel i z24 else z3))/\A z2/\A ((bif decide (i=z8.toNat/\z9<=z25/\z25<z9+(8:Nat)) then z3 else if i<g_1 then g.cel i z25 else z3)=if i<g' then g.cel i z25 else z3))/\True)/\A ((piI g).meas g'<(piI g).meas g_1)) (A (z11<=z8+z13/\z8+z13<=z10)/\True/\∃ (g':Nat),A ((piI g).pre g')/\((z27/\z1/\z12/\True/\z31/\(A z5/\A (z8+z13=(↑g':Int)))/\True)/\(A z32/\∀ i:Nat,i<z14*g.w->(((((((True/\A z2/\A ((if i<g_1 then g.cel i z9 else z3)=if i<g' then g.cel i z9 else z3))/\A z2/\A ((if i<g_1 then g.cel i z18 else z3)=if i<g' then g.cel i z18 else z3))/\A z2/\A ((if i<g_1 then g.cel i z20 else z3)=if i<g' then g.cel i z20 else z3))/\A z2/\A ((if i<g_1 then g.cel i z21 else z3)=if i<g' then g.cel i z21 else z3))/\A z2/\A ((if i<g_1 then g.cel i z22 else z3)=if i<g' then g.cel i z22 else z3))/\A z2/\A ((if i<g_1 then g.cel i z23 else z3)=if i<g' then g.cel i z23 else z3))/\A z2/\A ((if i<g_1 then g.cel i z24 else z3)=if i<g' then g.cel i z24 else z3))/\A z2/\A ((if i<g_1 then g.cel i z25 else z3)=if i<g' then g.cel i z25 else z3))/\True)/\A ((piI g).meas g'<(piI g).meas g_1))) (True/\True/\(((A z5/\A (z6=(↑z6.toNat:Int)))/\(A z5/\A (z13=(↑(K z13):Int)))/\(A z32/\∀ i:Nat,i<z14*g.w->(((((((True/\A z2/\A ((if i<g_1 then g.cel i z9 else z3)=if i<g_1 then g.cel i z9 else z3))/\A z2/\A ((if i<g_1 then g.cel i z18 else z3)=if i<g_1 then g.cel i z18 else z3))/\A z2/\A ((if i<g_1 then g.cel i z20 else z3)=if i<g_1 then g.cel i z20 else z3))/\A z2/\A ((if i<g_1 then g.cel i z21 else z3)=if i<g_1 then g.cel i z21 else z3))/\A z2/\A ((if i<g_1 then g.cel i z22 else z3)=if i<g_1 then g.cel i z22 else z3))/\A z2/\A ((if i<g_1 then g.cel i z23 else z3)=if i<g_1 then g.cel i z23 else z3))/\A z2/\A ((if i<g_1 then g.cel i z24 else z3)=if i<g_1 then g.cel i z24 else z3))/\A z2/\A ((if i<g_1 then g.cel i z25 else z3)=if i<g_1 then g.cel i z25 else z3))/\True)/\A ((z18<=z6.toNat/\z6.toNat<=z14)/\(z18<=K z13/\K z13<=z14)/\z14*g.w=z14*z6.toNat*K z13))/\True/\True/\True/\True/\True/\True/\True/\True/\A ((bif z0.full then z9 else z0.n)=bif z30.full then z9 else z30.n)/\∀ i:Nat,(i<bif z30.full then z9 else z30.n)->((((((((True/\A (z15.m i=z7.m i)/\∀ i_1:Nat,i_1<z7.m i->((True/\A z5/\A ((z15.p i i_1).y=(z7.p i i_1).y))/\A z5/\A ((z15.p i i_1).x0=(z7.p i i_1).x0))/\A z5/\A ((z15.p i i_1).x1=(z7.p i i_1).x1))/\A z2/\A (z15.ink i z9=z7.ink i z9))/\A z2/\A (z15.ink i z18=z7.ink i z18))/\A z2/\A (z15.ink i z20=z7.ink i z20))/\A z2/\A (z15.ink i z21=z7.ink i z21))/\A z2/\A (z15.ink i z22=z7.ink i z22))/\A z2/\A (z15.ink i z23=z7.ink i z23))/\A z2/\A (z15.ink i z24=z7.ink i z24))/\A z2/\A (z15.ink i z25=z7.ink i z25))) ?_;simp only [chp];simp only [cln,lF,lS];obtain ⟨hw,hn⟩:=hg;have hc:=ap5 g.k 1 40 (by omega);obtain ⟨c,ec,hc1,hc2⟩:∃ c:Nat,cutI g.k 1 40=(c:Int)/\1<=c/\c<=40:=⟨(cutI g.k 1 40).toNat,by omega,by omega,by omega⟩
 refine ⟨by omega,by omega,by omega,⟨0,lC _,⟨by omega,rfl⟩,by omega,fun i _=>eight (a:=fun _=>0) (b:=fun j=>if i<0 then g.cel i j else 0) (fun j _=>rfl)⟩,fun a ha=>?_⟩;replace ha:a<=256*g.w:=ha
 refine ⟨fun hlt=>⟨fun hpos=>?_,fun hz=>⟨by omega,a+1,(by show a+1<=256*g.w; omega),⟨by omega,fun i _=>?_⟩,(by show 256*g.w-(a+1)<256*g.w-a; omega)⟩⟩,fun hge=>?_⟩
 ·have e1:(a:Int).tdiv (cutI g.k 1 40)=((a / c:Nat):Int):=by rw [ec]; exact (Int.ofNat_tdiv a c).symm
  have e2:(a:Int).tdiv (16*(g.w:Int))=((a / (16*g.w):Nat):Int):=by rw [show (16:Int)*(g.w:Int)=((16*g.w:Nat):Int) by omega]; exact (Int.ofNat_tdiv a _).symm
  have e3:((a / (16*g.w):Nat):Int).tdiv 3=((a / (16*g.w) / 3:Nat):Int):=(Int.ofNat_tdiv _ 3).symm;have e4:(((a / c:Nat):Int)+((a / (16*g.w) / 3:Nat):Int)).tmod (g.n:Int)=(((a / c+a / (16*g.w) / 3) % g.n:Nat):Int):=by rw [<-Int.natCast_add]; exact (Int.ofNat_tmod _ _).symm
  have b1:a / c<=a:=Nat.div_le_self _ _;have b2:a / (16*g.w)<=a:=Nat.div_le_self _ _;have b3:a / (16*g.w) / 3<=a / (16*g.w):=Nat.div_le_self _ _;have b4:(a / c+a / (16*g.w) / 3) % g.n<g.n:=xO _ (by omega);have en:(a / c+a / (16*g.w) / 3) % g.n=g.at' a:=by unfold PiG.at'; rw [ec]; rfl
  rw [e1,e2,e3,e4];generalize a / c=q1 at *
  generalize a / (16*g.w)=q2 at *
  generalize q2 / 3=q3 at *
  generalize (q1+q3) % g.n=q4 at *
  refine ⟨⟨by omega,by omega⟩,by omega,⟨by omega,by omega⟩,⟨by omega,by omega⟩,by omega,by omega,by omega,by omega,by omega,by omega,by omega,by omega,by omega,a+1,(by show a+1<=256*g.w; omega),⟨by omega,fun i _=>?_⟩,(by show 256*g.w-(a+1)<256*g.w-a; omega)⟩;rw [lF,en];by_cases hi:i=a
  ·subst hi;have h:=eight (a:=fun j=>if j<3 then g.f (g.at' i) j else 0) (b:=fun j=>if i<i+1 then g.cel i j else 0) (fun j hj=>by
    show (if j<3 then g.f (g.at' i) j else 0)=if i<i+1 then g.cel i j else 0
    rw [lm (xB i)];unfold PiG.cel;rw [lm (show 0<g.n by omega)];unfold three;match j,hj with
    | 0,_=>rfl
    | 1,_=>rfl
    | 2,_=>rfl
    | 3,_=>rfl
    | 4,_=>rfl
    | 5,_=>rfl
    | 6,_=>rfl
    | 7,_=>rfl)
   simpa using h
  ·have e:∀ j,(if i<a then g.cel i j else 0)=if i<a+1 then g.cel i j else 0:=fun j=>by
    by_cases h:i<a
    ·rw [lm h,lm (by omega)]
    ·rw [lr h,lr (by omega)]
   have:=eight (a:=fun j=>if i<a then g.cel i j else 0) (b:=fun j=>if i<a+1 then g.cel i j else 0) (fun j _=>e j)
   simpa [hi] using this
 ·refine eight (a:=fun j=>if i<a then g.cel i j else 0) (b:=fun j=>if i<a+1 then g.cel i j else 0) (fun j _=>?_);show (if i<a then g.cel i j else 0)=if i<a+1 then g.cel i j else 0
  unfold PiG.cel;rw [lr (show ¬ 0<g.n by omega)];show (if i<a then (0:Int) else 0)=if i<a+1 then (0:Int) else 0
  rw [ite_self,ite_self]
 ·have ea:a=256*g.w:=by omega
  subst ea;rw [show (⟨g.w,Int.toNat 1,256*g.w,fun i j=>if i<256*g.w then g.cel i j else 0⟩:OfG)=g.of from rfl];refine ⟨⟨rfl,⟨hw.1,by omega⟩,by decide,(uj _).symm⟩,?_⟩;simp
end Pcs
namespace Ofl
open Go.RowKit Go.Lib Go.Sort Sx Num Aff Con Rga Rgl Rgm Rgn Rgf Gat Gar Ows Apl Apt
theorem bO5 {L:List Rn}(h:L≠[]) (r:Rn):(rI (addR L r) 0).y=(rI L 0).y/\(rI (addR L r) 0).x0=(rI L 0).x0:=by
 rcases aj7 L with rfl | ⟨P,s,rfl⟩
 ·exact absurd rfl h
 rw [av3];cases P with
 | nil=>
  split
  ·split<;>exact ⟨rfl,rfl⟩
  ·exact ⟨rfl,rfl⟩
 | cons q P=>
  split
  ·split<;>exact ⟨rfl,rfl⟩
  ·exact ⟨rfl,rfl⟩
theorem cp3 {L:List Rn}{r:Rn}(h:r.x0<r.x1):0<(addR L r).length:=by
 rcases aj7 L with rfl | ⟨P,s,rfl⟩
 ·rw [add_nil,lm h]; exact uq
 ·rw [av3,lm h];split<;>simp
theorem aC9 {L:List Rn}{y x y' x':Int}(h:aftE L y x) (hh:y<y'\/(y=y'/\x<=x')):aftE L y' x':=fun s hs=>by
 have:=h s hs
 omega
def Gt.Q (G:Gt):Pcs:=⟨G.n,G.m,G.p,G.ink⟩
theorem av4 (G:Gt) (k:Nat) (L:List Rn):Pcs.L (Gt.Q (putP G k L)) k=L:=by
 show Lf (fun j=>bif decide (k=k) then rI L j else G.p k j) (updN G.m k L.length k)=L;rw [ah5];have:(fun j=>bif decide (k=k) then rI L j else G.p k j)=rI L:=by funext j; rw [lj rfl]; rfl
 rw [this,ce6]
theorem aL0 (G:Gt) {k j:Nat}(L:List Rn) (h:j≠k):Pcs.L (Gt.Q (putP G k L)) j=Pcs.L (Gt.Q G) j:=by
 show Lf (fun i=>bif decide (j=k) then rI L i else G.p j i) (updN G.m k L.length j)=_;rw [aq1 (xE h)];have:(fun i=>bif decide (j=k) then rI L i else G.p j i)=G.p j:=by funext i; rw [lg h]; rfl
 rw [this];rfl
def ck (f:Nat->Vec) (W:Nat) (y x:Int):List Int:=kOf (f (y.toNat*W+x.toNat))
def Dn (W:Nat) (y x:Nat) (y' x':Int):Prop:=0<=y'/\(0<=x'/\x'<W)/\(y'<y\/(y'=y/\x'<x))
structure GJ (f:Nat->Vec) (W y x:Nat) (G:Gt):Prop where
 has:∀ l,G.has l=true<->∃ k,k<G.n/\kOf (G.ink k)=l
 val:∀ k,k<G.n->G.val (kOf (G.ink k))=k
 nz:∀ k,k<G.n->kOf (G.ink k)≠nul
 from':∀ k,k<G.n->∃ i,G.ink k=f i
 v:∀ k,k<G.n->vld (Pcs.L (Gt.Q G) k)
 ne:∀ k,k<G.n->0<G.m k
 e:∀ k,k<G.n->aftE (Pcs.L (Gt.Q G) k) y x
 m:∀ k,k<G.n->∀ y' x',mem (Pcs.L (Gt.Q G) k) y' x'=true<->Dn W y x y' x'/\ck f W y' x'=kOf (G.ink k)
 cov:∀ y' x',Dn W y x y' x'->ck f W y' x'≠nul->∃ k,k<G.n/\kOf (G.ink k)=ck f W y' x'
 ord:∀ k,k+1<G.n->(G.p k 0).y<(G.p (k+1) 0).y\/((G.p k 0).y=(G.p (k+1) 0).y/\(G.p k 0).x0<=(G.p (k+1) 0).x0)
structure GI (f:Nat->Vec) (W y x cnt:Nat) (G:Gt):Prop where
 nf:G.full=true->4096<cnt
 nc:G.n<=cnt
 n4:G.n<=4096
 tot:(al (Gt.Q G) G.n).length<=cnt
 j:G.full=false->GJ f W y x G
theorem GI.mono {f W y x c d G} (h:GI f W y x c G) (hc:c<=d):GI f W y x d G:=⟨fun hf=>lP (h.nf hf) hc,lW h.nc hc,h.n4,lW h.tot hc,h.j⟩
theorem at8 {P Q:Pcs}:∀ n,(∀ k,k<n->P.m k=Q.m k)->(al P n).length=(al Q n).length
 | 0,_=>rfl
 | n+1,h=>by
  show (al P n++alr P n (P.m n)).length=(al Q n++alr Q n (Q.m n)).length;rw [lx,lx,am7,am7,at8 n (fun k hk=>h k (by omega)),h n (by omega)]
theorem aX2 {P Q:Pcs}{c:Nat}:∀ n,c<n->(∀ k,k<n->k≠c->P.m k=Q.m k)->P.m c<=Q.m c+1->(al P n).length<=(al Q n).length+1
 | n+1,hc,h,h1=>by
  show (al P n++alr P n (P.m n)).length<=(al Q n++alr Q n (Q.m n)).length+1;rw [lx,lx,am7,am7];by_cases hcn:c=n
  ·subst hcn;rw [at8 (Q:=Q) c (fun k hk=>h k (by omega) (by omega))];omega
  ·have:=aX2 (P:=P) (Q:=Q) n (by omega) (fun k hk hne=>h k (by omega) hne) h1
   rw [h n (by omega) (xE hcn)];omega
section
variable {f:Nat->Vec}{W y x to cnt:Nat}{G:Gt}
theorem aF6 (hto:x<to) (hW:to<=W) (y' x':Int):Dn W y to y' x'<->(Dn W y x y' x'\/(y'=y/\(x:Int)<=x'/\x'<to)):=by
 unfold Dn;omega
theorem aH0 (hs:∀ k,x<=k->k<to->kOf (f (y*W+k))=kOf (f (y*W+x))) {y' x':Int}(h:y'=y/\(x:Int)<=x'/\x'<to):ck f W y' x'=kOf (f (y*W+x)):=by
 obtain ⟨rfl,h1,h2⟩:=h;unfold ck;rw [lF];exact hs x'.toNat (by omega) (by omega)
theorem bR0 (J:GJ f W y x G) (hy:y<8192) (hW:W<=8192) (hto:x<to) (htW:to<=W) (hs:∀ k,x<=k->k<to->kOf (f (y*W+k))=kOf (f (y*W+x))) {k:Nat}(hk:k<G.n) (hv:kOf (G.ink k)=kOf (f (y*W+x))) :
  GJ f W y to (putP G k (grw G k ⟨y,x,to⟩)):=by
 have hr:okR ⟨(y:Int),x,to⟩:=⟨⟨⟨by show -8192<=(y:Int); omega,by show (y:Int)<8192; omega⟩,⟨by show -8192<=(x:Int); omega,by show (x:Int)<=8192; omega⟩,by show -8192<=(to:Int); omega,by show (to:Int)<=8192; omega⟩,by show (x:Int)<to; omega⟩
 have hL:grw G k ⟨y,x,to⟩=addR (Pcs.L (Gt.Q G) k) ⟨y,x,to⟩:=rfl;have hadd:=bO4 (J.v k hk) (r:=⟨y,x,to⟩) (fun _=>hr) (b30 (J.v k hk) (J.e k hk));have hnd:∀ j,j<G.n->kOf (G.ink j)=kOf (f (y*W+x))->j=k:=fun j hj he=>by
  have h1:=J.val j hj;have h2:=J.val k hk;rw [he] at h1;rw [hv,h1] at h2;omega
 have hne0:Pcs.L (Gt.Q G) k≠[]:=fun hc=>by
  have:=J.ne k hk
  have e:(Pcs.L (Gt.Q G) k).length=G.m k:=aw3 _ _;rw [hc] at e;simp at e;omega
 have first:∀ j,j<G.n->((putP G k (grw G k ⟨y,x,to⟩)).p j 0).y=(G.p j 0).y/\((putP G k (grw G k ⟨y,x,to⟩)).p j 0).x0=(G.p j 0).x0:=fun j hj=>by
  show (bif decide (j=k) then rI (grw G k ⟨y,x,to⟩) 0 else G.p j 0:Rn).y=_/\(bif decide (j=k) then rI (grw G k ⟨y,x,to⟩) 0 else G.p j 0:Rn).x0=_;by_cases hjk:j=k
  ·subst hjk;rw [lj rfl,hL];simp only [un];have h1:=bO5 hne0 ⟨y,x,to⟩;have h2:rI (Pcs.L (Gt.Q G) j) 0=G.p j 0:=aX5 _ (J.ne j hj);rw [h2] at h1;exact h1
  ·rw [lg hjk];exact ⟨rfl,rfl⟩
 refine ⟨J.has,J.val,J.nz,J.from',fun j hj=>?_,fun j hj=>?_,fun j hj=>?_,fun j hj y' x'=>?_,fun y' x' hd hz=>?_,fun j hj=>?_⟩
 ·by_cases hjk:j=k
  ·subst hjk; rw [av4,hL]; exact hadd.1
  ·rw [aL0 _ _ hjk]; exact J.v j hj
 ·show 0<updN G.m k _ j;by_cases hjk:j=k
  ·subst hjk; rw [ah5,hL]; exact cp3 (by show (x:Int)<to; omega)
  ·rw [aq1 (xE hjk)]; exact J.ne j hj
 ·by_cases hjk:j=k
  ·subst hjk; rw [av4,hL]; exact bO6 (J.e j hj) (by show (x:Int)<=to; omega)
  ·rw [aL0 _ _ hjk]; exact aC9 (J.e j hj) (by omega)
 ·show _<->_/\ck f W y' x'=kOf (G.ink j);rw [aF6 hto htW];by_cases hjk:j=k
  ·subst hjk;rw [av4,hL,hadd.2.1,xd,J.m j hj,ah3];constructor
   ·rintro (⟨h1,h2⟩ | ⟨h1,h2,h3⟩)
    ·exact ⟨.inl h1,h2⟩
    ·exact ⟨.inr ⟨h1.symm,h2,h3⟩,by rw [aH0 hs ⟨h1.symm,h2,h3⟩,hv]⟩
   ·rintro ⟨h1 | h1,h2⟩
    ·exact .inl ⟨h1,h2⟩
    ·exact .inr ⟨h1.1.symm,h1.2⟩
  ·rw [aL0 _ _ hjk,J.m j hj];constructor
   ·rintro ⟨h1,h2⟩; exact ⟨.inl h1,h2⟩
   ·rintro ⟨h1 | h1,h2⟩
    ·exact ⟨h1,h2⟩
    ·rw [aH0 hs h1] at h2;exact absurd (hnd j hj h2.symm) hjk
 ·rcases (aF6 hto htW y' x').1 hd with h1 | h1
  ·exact J.cov y' x' h1 hz
  ·exact ⟨k,hk,by show kOf (G.ink k)=_; rw [hv,aH0 hs h1]⟩
 ·have hj:j+1<G.n:=hj;have f1:=first j (by omega)
  have f2:=first (j+1) hj
  rw [f1.1,f1.2,f2.1,f2.2];exact J.ord j hj
theorem bz7 (G:Gt) (v:Vec) {j:Nat}(h:j≠G.n):Pcs.L (Gt.Q (fresh G v)) j=Pcs.L (Gt.Q G) j:=by
 show Lf (G.p j) (updN G.m G.n 0 j)=_;rw [aq1 (xE h)];rfl
theorem ce8 (G:Gt) (v:Vec):Pcs.L (Gt.Q (fresh G v)) G.n=[]:=by
 show Lf (G.p G.n) (updN G.m G.n 0 G.n)=_;rw [ah5];rfl
theorem be1 (G:Gt) (v:Vec) {j:Nat}(h:j<G.n):(fresh G v).ink j=G.ink j:=by
 show (fun i=>bif decide (j<G.n) then G.ink j i else v i)=_;rw [lj h];rfl
theorem bK1 (G:Gt) (v:Vec):(fresh G v).ink G.n=v:=by
 show (fun i=>bif decide (G.n<G.n) then G.ink G.n i else v i)=_;rw [lg (xr _)];rfl
theorem bS8 (J:GJ f W y x G) (hy:y<8192) (hW:W<=8192) (hto:x<to) (htW:to<=W) (hs:∀ k,x<=k->k<to->kOf (f (y*W+k))=kOf (f (y*W+x))) (hz:kOf (f (y*W+x))≠nul) (hh:G.has (kOf (f (y*W+x)))=false) :
  GJ f W y to (putP (fresh G (f (y*W+x))) G.n (grw (fresh G (f (y*W+x))) G.n ⟨y,x,to⟩)):=by
 generalize hvv:f (y*W+x)=v at *
 have hr:okR ⟨(y:Int),x,to⟩:=⟨⟨⟨by show -8192<=(y:Int); omega,by show (y:Int)<8192; omega⟩,⟨by show -8192<=(x:Int); omega,by show (x:Int)<=8192; omega⟩,by show -8192<=(to:Int); omega,by show (to:Int)<=8192; omega⟩,by show (x:Int)<to; omega⟩
 have hL:grw (fresh G v) G.n ⟨y,x,to⟩=[⟨y,x,to⟩]:=by
  show addR (Pcs.L (Gt.Q (fresh G v)) G.n) ⟨y,x,to⟩=_;rw [ce8,add_nil,lm (by show (x:Int)<to; omega)]
 have hno:∀ j,j<G.n->kOf (G.ink j)≠kOf v:=fun j hj he=>by
  have:=(J.has (kOf v)).2 ⟨j,hj,he⟩
  rw [hh] at this;cases this
 have inkL:∀ j,j<G.n->(putP (fresh G v) G.n (grw (fresh G v) G.n ⟨y,x,to⟩)).ink j=G.ink j:=fun j hj=>be1 G v hj
 have inkN:(putP (fresh G v) G.n (grw (fresh G v) G.n ⟨y,x,to⟩)).ink G.n=v:=bK1 G v;have LL:∀ j,j<G.n->Pcs.L (Gt.Q (putP (fresh G v) G.n (grw (fresh G v) G.n ⟨y,x,to⟩))) j=Pcs.L (Gt.Q G) j:=fun j hj=>by
  rw [aL0 _ _ (by omega:j≠G.n),bz7 G v (by omega)]
 have LN:Pcs.L (Gt.Q (putP (fresh G v) G.n (grw (fresh G v) G.n ⟨y,x,to⟩))) G.n=[⟨y,x,to⟩]:=by rw [av4,hL]
 have valE:∀ l,(putP (fresh G v) G.n (grw (fresh G v) G.n ⟨y,x,to⟩)).val l=bif decide (l=kOf v) then (G.n:Int) else G.val l:=fun l=>rfl
 have hasE:∀ l,(putP (fresh G v) G.n (grw (fresh G v) G.n ⟨y,x,to⟩)).has l=(decide (l=kOf v)||G.has l):=fun l=>rfl
 have split:∀ {j},j<G.n+1->j<G.n\/j=G.n:=fun h=>by omega
 refine ⟨fun l=>?_,fun j hj=>?_,fun j hj=>?_,fun j hj=>?_,fun j hj=>?_,fun j hj=>?_,fun j hj=>?_,fun j hj y' x'=>?_,fun y' x' hd hz'=>?_,fun j hj=>?_⟩
 ·rw [hasE,xd,lL,J.has];constructor
  ·rintro (h | ⟨j,h1,h2⟩)
   ·exact ⟨G.n,xB _,by rw [inkN]; exact h.symm⟩
   ·exact ⟨j,Nat.lt_succ_of_lt h1,by rw [inkL j h1]; exact h2⟩
  ·rintro ⟨j,h1,h2⟩;rcases split h1 with h | rfl
   ·exact .inr ⟨j,h,by rw [inkL j h] at h2; exact h2⟩
   ·exact .inl (by rw [inkN] at h2; exact h2.symm)
 ·rw [valE];rcases split hj with h | rfl
  ·rw [inkL j h,lg (hno j h)]; exact J.val j h
  ·rw [inkN,lj rfl]; rfl
 ·rcases split hj with h | rfl
  ·rw [inkL j h]; exact J.nz j h
  ·rw [inkN]; exact hz
 ·rcases split hj with h | rfl
  ·rw [inkL j h]; exact J.from' j h
  ·rw [inkN]; exact ⟨_,hvv.symm⟩
 ·rcases split hj with h | rfl
  ·rw [LL j h]; exact J.v j h
  ·rw [LN]; exact ae2.2 ⟨hr,fun _ h=>(xf h).elim,ar8⟩
 ·rcases split hj with h | rfl
  ·show 0<updN (updN G.m G.n 0) G.n _ j;rw [aq1 (by omega),aq1 (by omega)]; exact J.ne j h
  ·show 0<updN _ G.n _ G.n;rw [ah5,hL]; exact uq
 ·rcases split hj with h | rfl
  ·rw [LL j h]; exact aC9 (J.e j h) (by omega)
  ·rw [LN]; exact (ap9 (P:=[])).2 (.inr ⟨rfl,xl _⟩)
 ·rw [aF6 hto htW];rcases split hj with h | rfl
  ·rw [LL j h,inkL j h,J.m j h];constructor
   ·rintro ⟨h1,h2⟩; exact ⟨.inl h1,h2⟩
   ·rintro ⟨h1 | h1,h2⟩
    ·exact ⟨h1,h2⟩
    ·rw [aH0 (by rw [hvv]; exact hs) h1,hvv] at h2;exact absurd h2.symm (hno j h)
  ·rw [LN,inkN,ax6,ah3];constructor
   ·rintro ⟨h1,h2,h3⟩;exact ⟨.inr ⟨h1.symm,h2,h3⟩,by rw [aH0 (by rw [hvv]; exact hs) ⟨h1.symm,h2,h3⟩,hvv]⟩
   ·rintro ⟨h1 | h1,h2⟩
    ·obtain ⟨j,h3,h4⟩:=J.cov y' x' h1 (by rw [h2]; exact hz);exact absurd (h4.trans h2) (hno j h3)
    ·exact ⟨h1.1.symm,h1.2⟩
 ·rcases (aF6 hto htW y' x').1 hd with h1 | h1
  ·obtain ⟨j,h2,h3⟩:=J.cov y' x' h1 hz';exact ⟨j,Nat.lt_succ_of_lt h2,by rw [inkL j h2]; exact h3⟩
  ·exact ⟨G.n,xB _,by rw [inkN,aH0 (by rw [hvv]; exact hs) h1,hvv]⟩
 ·have hj:j+1<G.n+1:=hj;have pE:∀ i,i<G.n->(putP (fresh G v) G.n (grw (fresh G v) G.n ⟨y,x,to⟩)).p i 0=G.p i 0:=fun i hi=>by
   show (bif decide (i=G.n) then _ else G.p i 0:Rn)=_;rw [lg (by omega)];rfl
  rcases split hj with h | h
  ·rw [pE j (by omega),pE (j+1) h]; exact J.ord j h
  ·have pN:(putP (fresh G v) G.n (grw (fresh G v) G.n ⟨y,x,to⟩)).p G.n 0=⟨y,x,to⟩:=by
    show (bif decide (G.n=G.n) then rI (grw (fresh G v) G.n ⟨y,x,to⟩) 0 else G.p G.n 0:Rn)=_;rw [lj rfl,hL];rfl
   rw [h,pN,pE j (by omega)];have hne:=J.ne j (by omega);have okj:=(J.v j (by omega)).1 _ (ay3 (P:=Gt.Q G) hne);have hm:mem (Pcs.L (Gt.Q G) j) (G.p j 0).y (G.p j 0).x0=true:=(mem_iff _ _ _).2 ⟨_,ay3 (P:=Gt.Q G) hne,rfl,xl _,okj.2⟩;have hd:=((J.m j (by omega) _ _).1 hm).1;unfold Dn at hd;show (G.p j 0).y<(y:Int)\/((G.p j 0).y=y/\(G.p j 0).x0<=x);omega
theorem cb4 (h:GI f W y x cnt G) (hy:y<8192) (hW:W<=8192) (hto:x<to) (htW:to<=W) (hs:∀ k,x<=k->k<to->kOf (f (y*W+k))=kOf (f (y*W+x))):GI f W y to (cnt+1) (nxt G (f (y*W+x)) ⟨y,x,to⟩):=by
 rw [bI3];have keep:G.full=true\/kOf (f (y*W+x))=nul->GI f W y to (cnt+1) G:=fun hc=>by
  refine ⟨fun hf=>Nat.lt_succ_of_lt (h.nf hf),xX h.nc,h.n4,xX h.tot,fun hf=>?_⟩;have J:=h.j hf;have hz:kOf (f (y*W+x))=nul:=hc.resolve_left (by rw [hf]; decide);refine ⟨J.has,J.val,J.nz,J.from',J.v,J.ne,fun k hk=>aC9 (J.e k hk) (by omega),fun k hk y' x'=>?_,fun y' x' hd hz'=>?_,J.ord⟩
  ·rw [J.m k hk,aF6 hto htW];constructor
   ·rintro ⟨h1,h2⟩; exact ⟨.inl h1,h2⟩
   ·rintro ⟨h1 | h1,h2⟩
    ·exact ⟨h1,h2⟩
    ·rw [aH0 hs h1,hz] at h2;exact absurd h2.symm (J.nz k hk)
  ·rcases (aF6 hto htW y' x').1 hd with h1 | h1
   ·exact J.cov y' x' h1 hz'
   ·exact absurd (by rw [aH0 hs h1,hz]) hz'
 unfold nxtB;by_cases hc:kOf (f (y*W+x))=nul\/G.full=true
 ·rw [lm hc];exact keep hc.symm
 rw [lr hc];have hz:kOf (f (y*W+x))≠nul:=fun e=>hc (.inl e)
 have hf:G.full=false:=by
  cases hh:G.full with
  | false=>rfl
  | true=>exact absurd (.inr hh) hc
 have J:=h.j hf;by_cases hh:G.has (kOf (f (y*W+x)))=true
 ·rw [lm hh];obtain ⟨k,hk,he⟩:=(J.has _).1 hh;have ek:(G.val (kOf (f (y*W+x)))).toNat=k:=by rw [<-he,J.val k hk]; rfl
  rw [ek];refine ⟨fun hf'=>?_,xX h.nc,h.n4,?_,fun _=>bR0 J hy hW hto htW hs hk he⟩
  ·have hf':G.full=true:=hf';rw [hf] at hf'; cases hf'
  ·refine lW (aX2 (P:=Gt.Q (putP G k (grw G k ⟨y,x,to⟩))) (Q:=Gt.Q G) (c:=k) G.n hk (fun j hj hne=>?_) ?_) (Nat.succ_le_succ h.tot)
   ·show updN G.m k _ j=G.m j;rw [aq1 (xE hne)]
   ·show updN G.m k _ k<=G.m k+1;rw [ah5];have:=aD0 (Rg.L ⟨G.m k,G.p k⟩) ⟨y,x,to⟩
    rwa [Rg.len] at this
 ·rw [lr hh];by_cases h4:G.n=4096
  ·rw [lm h4];exact ⟨fun _=>by have:=h.nc; omega,xX h.nc,h.n4,xX h.tot,fun hf'=>by cases hf'⟩
  ·rw [lr h4];have hn4:=h.n4;have hnc:=h.nc;refine ⟨fun hf'=>?_,by show G.n+1<=cnt+1; omega,by show G.n+1<=4096; omega,?_,fun _=>bS8 J hy hW hto htW hs hz (by simpa using hh)⟩
   ·have hf':G.full=true:=hf';rw [hf] at hf'; cases hf'
   ·show (al _ G.n++alr _ G.n _).length<=cnt+1;rw [lx,am7];have e1:(al (Gt.Q (putP (fresh G (f (y*W+x))) G.n (grw (fresh G (f (y*W+x))) G.n ⟨y,x,to⟩))) G.n).length=(al (Gt.Q G) G.n).length:=at8 _ (fun j hj=>by
     show updN (updN G.m G.n 0) G.n _ j=G.m j;rw [aq1 (by omega),aq1 (by omega)])
    have e2:(Gt.Q (putP (fresh G (f (y*W+x))) G.n (grw (fresh G (f (y*W+x))) G.n ⟨y,x,to⟩))).m G.n<=1:=by
     show updN _ G.n _ G.n<=1;rw [ah5];have h1:=aD0 (Rg.L ⟨updN G.m G.n 0 G.n,G.p G.n⟩) ⟨y,x,to⟩;rw [Rg.len] at h1;have h2:(grw (fresh G (f (y*W+x))) G.n ⟨y,x,to⟩).length<=updN G.m G.n 0 G.n+1:=h1;rw [ah5] at h2;exact h2
    have:=h.tot
    omega
end
theorem b16 {f:Nat->Vec}{W y:Nat}(hy:y<8192) (hW:W<=8192):∀ n x cnt G,x<=W->W<=x+n->GI f W y x cnt G->GI f W y W (cnt+(W-x)) (rowG (fun i=>f (y*W+i)) y W n x G)
 | 0,x,cnt,G,h1,h2,h=>by
  obtain rfl:x=W:=by omega
  rw [uy];exact h
 | n+1,x,cnt,G,h1,h2,h=>by
  rw [aN0];by_cases hx:x<W
  ·rw [lm hx];have hb:=bs5 (f:=fun i=>f (y*W+i)) hx;have hg:=cb4 h hy hW hb.1.1 hb.1.2 (fun k hk1 hk2=>hb.2.1 k hk1 hk2);have:=b16 hy hW n _ _ _ hb.1.2 (by omega) hg
   exact this.mono (by omega)
  ·rw [lr hx];obtain rfl:x=W:=by omega
   rw [uy];exact h
theorem cb5 {f:Nat->Vec}{W y cnt:Nat}{G:Gt}(h:GI f W y W cnt G):GI f W (y+1) 0 cnt G:=by
 have hd:∀ y' x',Dn W (y+1) 0 y' x'<->Dn W y W y' x':=fun y' x'=>by unfold Dn; omega
 refine ⟨h.nf,h.nc,h.n4,h.tot,fun hf=>?_⟩;have J:=h.j hf;exact ⟨J.has,J.val,J.nz,J.from',J.v,J.ne,fun k hk=>aC9 (J.e k hk) (by omega),fun k hk y' x'=>by rw [hd]; exact J.m k hk y' x',fun y' x' hdd=>J.cov y' x' ((hd _ _).1 hdd),J.ord⟩
theorem co2 (f:Nat->Vec) {W:Nat}(hW:W<=8192):∀ y,y<=8192->GI f W y 0 (y*W) (ofR f W y)
 | 0,_=>by
  refine ⟨fun h=>(by cases h),lC _,lC _,lC _,fun _=>?_⟩;refine ⟨fun l=>⟨fun h=>(by cases h),fun ⟨k,h,_⟩=>absurd h (ln _)⟩,fun k h=>absurd h (ln _),fun k h=>absurd h (ln _),fun k h=>absurd h (ln _),fun k h=>absurd h (ln _),fun k h=>absurd h (ln _),fun k h=>absurd h (ln _),fun k h=>absurd h (ln _),fun y' x' h=>?_,fun k h=>absurd h (ln _)⟩;unfold Dn at h;omega
 | y+1,hy=>by
  have h:=b16 (f:=f) (y:=y) (by omega) hW W 0 _ _ (lC _) (by omega) (co2 f hW y (by omega));have e:ofR f W (y+1)=rowG (fun i=>f (y*W+i)) y W W 0 (ofR f W y):=by
   show rowA _ _ _ _=_;rw [bF6];rfl
  rw [e];refine cb5 (h.mono ?_);rw [lO,uF,lab];exact lf _
structure OfOK (g:OfG) (P:Pcs):Prop where
 n:(ofA g).full=false
 c:ChG.Ok ⟨g.w,g.h,P⟩
 from':∀ k,k<P.n->∃ i,P.ink k=g.f i
 m:∀ k,k<P.n->∀ y x,mem (Pcs.L P k) y x=true<->((0<=y/\y<16*g.h)/\0<=x/\x<16*g.w)/\ck g.f (16*g.w) y x=kOf (P.ink k)
 cov:∀ y x,((0<=y/\y<16*(g.h:Int))/\0<=x/\x<16*(g.w:Int))->ck g.f (16*g.w) y x≠nul->∃ k,k<P.n/\kOf (P.ink k)=ck g.f (16*g.w) y x
theorem b93 {g:OfG}(hw:1<=g.w/\g.w<=256) (hh:1<=g.h/\g.h<=256) (hc:256*g.w*g.h<=4096):OfOK g (Gt.P (ofA g)):=by
 have e:ofA g=ofR g.f (16*g.w) (16*g.h):=by rw [of_eq]; rfl
 have h:=co2 g.f (W:=16*g.w) (by omega) (16*g.h) (by omega);rw [<-e] at h;have hcnt:16*g.h*(16*g.w)=256*g.w*g.h:=by grind
 rw [hcnt] at h;have hf:(ofA g).full=false:=by
  cases hff:(ofA g).full with
  | false=>rfl
  | true=>have:=h.nf hff; omega
 have J:=h.j hf;have hP:Gt.P (ofA g)=Gt.Q (ofA g):=by
  show (⟨bif (ofA g).full then 0 else (ofA g).n,_,_,_⟩:Pcs)=_;rw [hf];rfl
 have hd:∀ y x:Int,Dn (16*g.w) (16*g.h) 0 y x<->((0<=y/\y<16*(g.h:Int))/\0<=x/\x<16*(g.w:Int)):=fun y x=>by unfold Dn; omega
 have hm:∀ k,k<(ofA g).n->∀ y x:Int,mem (Pcs.L (Gt.Q (ofA g)) k) y x=true<->((0<=y/\y<16*(g.h:Int))/\0<=x/\x<16*(g.w:Int))/\ck g.f (16*g.w) y x=kOf ((ofA g).ink k):=fun k hk y x=>by rw [J.m k hk,hd]
 have dist:∀ i j,i<j->j<(ofA g).n->kOf ((ofA g).ink i)≠kOf ((ofA g).ink j):=fun i j hij hj he=>by
  have h1:=J.val i (by omega);have h2:=J.val j hj;rw [he,h2] at h1;omega
 refine ⟨hf,?_,?_,?_,?_⟩
 ·rw [hP];refine ⟨hw,hh,⟨h.n4,lW h.tot (by omega),J.v,J.ne,dist,fun i j hij hj y x h1 h2=>?_,J.ord⟩,J.nz,fun k r hk hr=>?_⟩
  ·have a:=((hm i (by have:j<(ofA g).n:=hj; omega) y x).1 h1).2;have b:=((hm j hj y x).1 h2).2;exact dist i j hij hj (a.symm.trans b)
  ·have okr:=((J.v k hk).1 _ (ay3 (P:=Gt.Q (ofA g)) hr)).2;have a:=((hm k hk _ _).1 ((mem_iff _ _ _).2 ⟨_,ay3 (P:=Gt.Q (ofA g)) hr,rfl,xl _,okr⟩)).1;have b:=((hm k hk _ (((Gt.Q (ofA g)).p k r).x1-1)).1 ((mem_iff _ _ _).2 ⟨_,ay3 (P:=Gt.Q (ofA g)) hr,rfl,by omega,by omega⟩)).1;exact ⟨a.1,a.2.1,by have:=b.2.2; show ((Gt.Q (ofA g)).p k r).x1<=16*(g.w:Int); omega⟩
 ·rw [hP]; exact J.from'
 ·rw [hP]; exact hm
 ·rw [hP]; exact fun y x hin hz=>J.cov y x ((hd y x).2 hin) hz
end Ofl
namespace Ftp
open Go.RowKit Sx Num Aff Con Rga Gat Gar
end Ftp
namespace Cof
open Go.RowKit Sx Num Aff Con Rga Rgl Rgm Rgn Gat Gar Ows Apl Apt Cel Ofl Ftp
theorem ce_ok {g:ChG}(h:g.Ok):(⟨g.w,g.h,g.P⟩:CeG).Ok where
 w:=h.w
 h:=h.h
 n:=h.P.n
 m k hk:=by
  have hl:=ar9 (h.P.v k hk);have e:(Pcs.L g.P k).length=g.P.m k:=aw3 _ _;rw [e] at hl;show g.P.m k<=_;omega
 r k r hk hr:=by
  have h1:=h.r k r hk hr;have h2:=((h.P.v k hk).1 _ (ay3 hr)).2;exact ⟨h1.1,⟨h1.2.1,h2⟩,h1.2.2⟩
theorem ca9 {W y R x a b:Nat}(hx:x<W) (hb:b<=W):(R*W+a<=y*W+x/\y*W+x<R*W+b)<->(R=y/\a<=x/\x<b):=by
 constructor
 ·rintro ⟨h1,h2⟩;rcases xL R y with h | h | h
  ·have:=lk W h
   rw [ur] at this;omega
  ·subst h; omega
  ·have:=lk W h
   rw [ur] at this;omega
 ·rintro ⟨rfl,h1,h2⟩; omega
def ix (w:Nat) (y x:Int):Nat:=y.toNat*(16*w)+x.toNat
theorem b78 {w:Nat}{c:Nat->Vec}{r:Rn}{v:Vec}{y x:Int}(hy:0<=y) (hx:0<=x/\x<16*w) (hr:0<=r.y/\0<=r.x0/\r.x1<=16*w):putR w c r v (ix w y x)=if inR r y x=true then v else c (ix w y x):=by
 unfold putR put rwAt ix;have h:=ca9 (W:=16*w) (y:=y.toNat) (R:=r.y.toNat) (x:=x.toNat) (a:=r.x0.toNat) (b:=r.x1.toNat) (by omega) (by omega);by_cases hin:inR r y x=true
 ·rw [lm hin,lj (h.2 (by rw [ah3] at hin; omega))];rfl
 ·rw [lr hin,lg (fun hc=>hin (by rw [ah3]; have:=h.1 hc; omega))];rfl
theorem b20 {g:ChG}(hg:g.Ok) {c:Nat->Vec}{k:Nat}(hk:k<g.P.n) {y x:Int}(hy:0<=y) (hx:0<=x/\x<16*g.w):∀ j,j<=g.P.m k->ceR ⟨g.w,g.h,g.P⟩ c k j (ix g.w y x)=if mem (Lf (g.P.p k) j) y x=true then g.P.ink k else c (ix g.w y x)
 | 0,_=>rfl
 | j+1,hj=>by
  have hr:=hg.r k j hk hj;show putR g.w (ceR ⟨g.w,g.h,g.P⟩ c k j) (g.P.p k j) (g.P.ink k) (ix g.w y x)=_;rw [b78 hy hx ⟨hr.1.1,hr.2.1,hr.2.2⟩,b20 hg hk hy hx j (by omega),aR7,aO1,ax6];cases hm:mem (Lf (g.P.p k) j) y x<;>cases hi:inR (g.P.p k j) y x<;>rfl
theorem b21 {g:ChG}(hg:g.Ok) {y x:Int}(hy:0<=y) (hx:0<=x/\x<16*g.w):∀ n,n<=g.P.n->(∀ k,k<n->mem (Pcs.L g.P k) y x=true->ceP ⟨g.w,g.h,g.P⟩ n (ix g.w y x)=g.P.ink k)/\((∀ k,k<n->¬ mem (Pcs.L g.P k) y x=true)->ceP ⟨g.w,g.h,g.P⟩ n (ix g.w y x)=fun _=>0)
 | 0,_=>⟨fun k hk=>absurd hk (ln _),fun _=>rfl⟩
 | n+1,hn=>by
  obtain ⟨h1,h2⟩:=b21 hg hy hx n (by omega);have e:ceP ⟨g.w,g.h,g.P⟩ (n+1) (ix g.w y x)=if mem (Pcs.L g.P n) y x=true then g.P.ink n else ceP ⟨g.w,g.h,g.P⟩ n (ix g.w y x):=b20 hg (by omega) hy hx (g.P.m n) (lf _)
  rw [e];refine ⟨fun k hk hm=>?_,fun hno=>?_⟩
  ·by_cases hkn:k=n
   ·subst hkn; rw [lm hm]
   ·rw [lr (fun hc=>hg.P.disj k n (by omega) (by omega) y x hm hc)];exact h1 k (by omega) hm
  ·rw [lr (hno n (by omega))];exact h2 fun k hk=>hno k (by omega)
theorem ce_of {g:OfG}{P:Pcs}(h:OfOK g P) {y x:Int}(hin:(0<=y/\y<16*(g.h:Int))/\0<=x/\x<16*(g.w:Int)):kOf (ceB ⟨g.w,g.h,P⟩ (ix g.w y x))=kOf (g.f (ix g.w y x)):=by
 obtain ⟨h1,h2⟩:=b21 h.c hin.1.1 hin.2 P.n (lf _);show kOf (ceP ⟨g.w,g.h,P⟩ P.n (ix g.w y x))=ck g.f (16*g.w) y x;by_cases hz:ck g.f (16*g.w) y x=nul
 ·rw [h2 fun k hk hm=>?_,hz]
  ·rfl
  ·have:=((h.m k hk y x).1 hm).2
   exact h.c.nz k hk (this.symm.trans hz)
 ·obtain ⟨k,hk,he⟩:=h.cov y x hin hz;rw [h1 k hk ((h.m k hk y x).2 ⟨hin,he.symm⟩),he]
def byt (v:Vec):Prop:=∀ j,0<=v j/\v j<=255
theorem byt0:byt (fun _=>0):=fun _=>⟨xl 0,by show (0:Int)<=255; decide⟩
theorem bM9 {g:CeG}{c:Nat->Vec}{k:Nat}(hk:byt (g.P.ink k)) (hc:∀ i,byt (c i)):∀ j i,byt (ceR g c k j i)
 | 0,i=>hc i
 | j+1,i=>by
  show byt (putR g.w (ceR g c k j) (g.P.p k j) (g.P.ink k) i);unfold putR put;cases decide (rwAt g.w (g.P.p k j)+(g.P.p k j).x0.toNat<=i/\i<rwAt g.w (g.P.p k j)+(g.P.p k j).x1.toNat)
  ·exact bM9 hk hc j i
  ·exact hk
theorem bN0 {g:CeG}(hP:∀ k,k<g.P.n->byt (g.P.ink k)):∀ n,n<=g.P.n->∀ i,byt (ceP g n i)
 | 0,_,_=>byt0
 | n+1,hn,i=>bM9 (hP n (by omega)) (bN0 hP n (by omega)) _ i
theorem b25 {g:OfG}{P:Pcs}(h:OfOK g P) (hf:∀ i,byt (g.f i)):∀ k,k<P.n->byt (P.ink k):=fun k hk=>by
 obtain ⟨i,e⟩:=h.from' k hk;rw [e]; exact hf i
def hi0 (v:Vec):Prop:=∀ j,8<=j->v j=0
theorem aO7 {u v:Vec}(h:kOf u=kOf v) {j:Nat}(hj:j<8):u j=v j:=by
 unfold kOf at h;simp only [List.cons.injEq,and_true] at h;obtain ⟨e0,e1,e2,e3,e4,e5,e6,e7⟩:=h;match j,hj with
 | 0,_=>exact e0
 | 1,_=>exact e1
 | 2,_=>exact e2
 | 3,_=>exact e3
 | 4,_=>exact e4
 | 5,_=>exact e5
 | 6,_=>exact e6
 | 7,_=>exact e7
end Cof
namespace Trq
open Go.RowKit Sx Num Aff Con Rga Rgl Rgm Rgn Gat Gar Ows Apl Apt Cel Ofl Ftp Cof Wid Trp Tsp Tpn Tco Ttr
structure Tk (og:OfG) (m:Nat) (o:Nat->Nat) (r:Nat):Prop where
 wB:1<=og.w/\og.w<=2
 hB:1<=og.h/\og.h<=2
 fB:∀ i j,j<8->0<=og.f i j
 mL:m<=8
 oL:∀ k,k<m->o k<8
 dO:∀ i j,i<j->j<m->o i≠o j
 cO:∀ i j,j<8->og.f i j≠0->∃ k,k<m/\o k=j
 rL:r<=64
def tk (og:OfG) (P:Pcs) (m:Nat) (o:Nat->Nat) (r:Nat):TrG:=⟨og.w,og.h,P,m,o,r⟩
theorem b00 {g:CeG}{c:Nat->Vec}{k j:Nat}(hk:0<=g.P.ink k j) (hc:∀ i,0<=c i j):∀ a i,0<=ceR g c k a i j
 | 0,i=>hc i
 | a+1,i=>by
  show 0<=putR g.w (ceR g c k a) (g.P.p k a) (g.P.ink k) i j;unfold putR put;cases decide (rwAt g.w (g.P.p k a)+(g.P.p k a).x0.toNat<=i/\i<rwAt g.w (g.P.p k a)+(g.P.p k a).x1.toNat)
  ·exact b00 hk hc a i
  ·exact hk
theorem b02 {g:CeG}{j:Nat}(hP:∀ k,k<g.P.n->0<=g.P.ink k j):∀ n,n<=g.P.n->∀ i,0<=ceP g n i j
 | 0,_,_=>xl _
 | n+1,hn,i=>b00 (hP n (by omega)) (b02 hP n (by omega)) _ i
section
variable {og:OfG}{P:Pcs}{m:Nat}{o:Nat->Nat}{r:Nat}
theorem small (h:Tk og m o r):256*og.w*og.h<=1024:=uI (show 256*og.w<=512 by have:=h.wB; omega) h.hB.2
theorem tk_of (h:Tk og m o r):OfOK og (Gt.P (ofA og)):=b93 ⟨h.wB.1,by have:=h.wB.2; omega⟩ ⟨h.hB.1,by have:=h.hB.2; omega⟩ (by have:=small h; omega)
theorem b45 (h:Tk og m o r) (ho:OfOK og P) (i:Nat) {j:Nat}(hj:j<8):0<=(tk og P m o r).c i j:=b02 (g:=⟨og.w,og.h,P⟩) (fun k hk=>by
 obtain ⟨a,e⟩:=ho.from' k hk;rw [show P.ink k j=og.f a j from congrFun e j];exact h.fB a j hj) _ (lf _) i
theorem bP6 (h:Tk og m o r) (ho:OfOK og P):(tk og P m o r).Ok:=by
 have hw:=h.wB;have hh:=h.hB;refine ⟨⟨hw.1,?_⟩,⟨hh.1,?_⟩,ce_ok ho.c,h.mL,⟨?_,?_⟩,⟨?_,?_⟩,h.oL,?_,fun i j _ hj=>b45 h ho i hj⟩
 ·show og.w<=256; omega
 ·show og.h<=256; omega
 ·show 1<=16*og.w; omega
 ·show 16*og.w<=4096; omega
 ·show 1<=16*og.h; omega
 ·show 16*og.h<=4096; omega
 ·show r<=_; have:=h.rL; omega
theorem cf6 (h:Tk og m o r) (ho:OfOK og P):(tk og P m o r).ck.Ok:=by
 refine ⟨ho.c,⟨ho.c.P.n,h.mL,h.oL,h.dO,fun k j hk hj hne=>?_⟩,h.rL⟩;obtain ⟨i,e⟩:=ho.from' k hk;rw [show (tk og P m o r).ck.c.P.ink k j=og.f i j from congrFun e j] at hne;exact h.cO i j hj hne
theorem aY3 {i:Nat}(hi:i<(tk og P m o r).N):(tk og P m o r).of.f i=tcF ((tk og P m o r).c i) ((tk og P m o r).W i) m o m:=by
 funext j;show (bif decide (i<(tk og P m o r).N) then (tk og P m o r).t i j else _)=_;rw [lj hi];rfl
theorem aL5 (h:Tk og m o r) (ho:OfOK og P):OfOK (tk og P m o r).of (Gt.P (ofA (tk og P m o r).of)):=b93 (bP6 h ho).w (bP6 h ho).h (by have:=small h; show 256*og.w*og.h<=_; omega)
end
theorem pEq {P Q:Pcs}(h:P=Q):P.n=Q.n/\∀ i,i<Q.n->((((((((P.m i=Q.m i/\∀ a,a<Q.m i->((P.p i a).y=(Q.p i a).y/\(P.p i a).x0=(Q.p i a).x0)/\(P.p i a).x1=(Q.p i a).x1)/\P.ink i 0=Q.ink i 0)/\P.ink i 1=Q.ink i 1)/\P.ink i 2=Q.ink i 2)/\P.ink i 3=Q.ink i 3)/\P.ink i 4=Q.ink i 4)/\P.ink i 5=Q.ink i 5)/\P.ink i 6=Q.ink i 6)/\P.ink i 7=Q.ink i 7:=by
 subst h;exact ⟨rfl,fun _ _=>⟨⟨⟨⟨⟨⟨⟨⟨⟨rfl,fun _ _=>⟨⟨rfl,rfl⟩,rfl⟩⟩,rfl⟩,rfl⟩,rfl⟩,rfl⟩,rfl⟩,rfl⟩,rfl⟩,rfl⟩⟩
end Trq
namespace Trt
open Go.RowKit Sx Num Aff Con Rga Rgl Rgm Rgn Rgd Gat Gar Ows Apl Apt Cel Ofl Ftp Cof Wid Trp Tsp Tpn Tco Ttr Trq
theorem bp6 (g:ReG) (y x:Int):mem (Lf g.f g.n) y x=decide ((g.y0<=y/\y<g.y1)/\g.x0<=x/\x<g.x1):=by
 rw [uS,mem_iff,lL];constructor
 ·rintro ⟨r,hr,h1,h2,h3⟩;obtain ⟨k,hk,rfl⟩:=xi.1 hr;have hk:=lH.1 hk;have hk:k<(g.y1-g.y0).toNat:=hk;have h1:g.y0+k=y:=h1;have h2:g.x0<=x:=h2;have h3:x<g.x1:=h3;omega
 ·rintro ⟨⟨h1,h2⟩,h3,h4⟩;refine ⟨g.f (y-g.y0).toNat,xi.2 ⟨_,lH.2 (show (y-g.y0).toNat<(g.y1-g.y0).toNat by omega),rfl⟩,show g.y0+((y-g.y0).toNat:Int)=y by omega,h3,h4⟩
theorem bp5 {g:ReG}(h:g.ok) (h2:g.y1<=8192):vld (Lf g.f g.n):=by
 obtain ⟨⟨a1,a2⟩,⟨b1,b2⟩,⟨c1,c2⟩,⟨d1,d2⟩,hx,hy⟩:=h;have go:∀ m,m<=g.n->vld (Lf g.f m):=by
  intro m;induction m with
  | zero=>intro _; exact ar8
  | succ m ih=>
   intro hm;have hm:m+1<=(g.y1-g.y0).toNat:=hm;rw [aR7,az1];refine ⟨ih (by show m<=(g.y1-g.y0).toNat; omega),⟨⟨⟨by show -8192<=g.y0+m; omega,by show g.y0+(m:Int)<8192; omega⟩,⟨a1,a2⟩,c1,c2⟩,hx⟩,fun s hs=>?_⟩;obtain ⟨k,hk,rfl⟩:=xi.1 hs;have hk:=lH.1 hk;exact .inl (by show g.y0+(k:Int)<g.y0+m; omega)
 exact go _ (lf _)
def v8 (a b c d e f g h:Int) (j:Nat):Int:=match j with
 | 0=>a
 | 1=>b
 | 2=>c
 | 3=>d
 | 4=>e
 | 5=>f
 | 6=>g
 | 7=>h
 | _=>0
def lrc:ReG:=⟨0,0,8,16⟩
def rrc:ReG:=⟨8,0,16,16⟩
theorem b06:lrc.ok:=⟨by decide,by decide,by decide,by decide,by decide,by decide⟩
theorem bY3:rrc.ok:=⟨by decide,by decide,by decide,by decide,by decide,by decide⟩
def vL:Vec:=v8 255 0 0 0 0 0 0 0
def vR:Vec:=v8 0 200 0 0 0 0 0 0
def o01 (k:Nat):Nat:=(bif decide (k=1) then (1:Int) else 0).toNat
structure Two (P:Pcs):Prop where
 n:P.n=2
 m0:P.m 0=16
 m1:P.m 1=16
 p0:∀ r,r<16->P.p 0 r=lrc.f r
 p1:∀ r,r<16->P.p 1 r=rrc.f r
 k0:P.ink 0=vL
 k1:P.ink 1=vR
def og2:OfG:=⟨1,1,256,fun i=>if i % 16<8 then vL else vR⟩
theorem Two.L0 {P:Pcs}(h:Two P):Pcs.L P 0=Lf lrc.f lrc.n:=by
 show Lf (P.p 0) (P.m 0)=_;rw [h.m0];exact bt5 h.p0
theorem Two.L1 {P:Pcs}(h:Two P):Pcs.L P 1=Lf rrc.f rrc.n:=by
 show Lf (P.p 1) (P.m 1)=_;rw [h.m1];exact bt5 h.p1
theorem Two.mem0 {P:Pcs}(h:Two P) (y x:Int):mem (Pcs.L P 0) y x=true<->(0<=y/\y<16)/\0<=x/\x<8:=by
 rw [h.L0,bp6,lL];exact uP
theorem Two.mem1 {P:Pcs}(h:Two P) (y x:Int):mem (Pcs.L P 1) y x=true<->(0<=y/\y<16)/\8<=x/\x<16:=by
 rw [h.L1,bp6,lL];exact uP
theorem bw5 {y x:Int}(hy:0<=y) (hx:0<=x/\x<16):og2.f (ix 1 y x)=if x<8 then vL else vR:=by
 have e:ix 1 y x % 16=x.toNat:=by unfold ix; omega
 show (if ix 1 y x % 16<8 then vL else vR)=_;rw [e];by_cases hc:x<8
 ·rw [lm (by omega),lm hc]
 ·rw [lr (by omega),lr hc]
theorem Two.of {P:Pcs}(h:Two P):OfOK og2 P:=by
 have h0:=b93 (g:=og2) ⟨lf _,by show 1<=256; decide⟩ ⟨lf _,by show 1<=256; decide⟩ (by show 256*1*1<=4096; decide);have hn:=h.n;have k01:∀ k,k<P.n->k=0\/k=1:=fun k hk=>by omega
 have hm:∀ k,k<P.n->P.m k=16:=fun k hk=>(k01 k hk).elim (fun e=>e▸h.m0) fun e=>e▸h.m1
 refine ⟨h0.n,⟨⟨lf _,by show 1<=256; decide⟩,⟨lf _,by show 1<=256; decide⟩,⟨by rw [hn]; decide,?_,fun k hk=>?_,fun k hk=>?_,fun i j hij hj=>?_,fun i j hij hj y x hi' hj'=>?_,fun k hk=>?_⟩,fun k hk=>?_,fun k r hk hr=>?_⟩,fun k hk=>?_,fun k hk y x=>?_,fun y x hin hz=>?_⟩
 ·rw [hn];show (([]++alr P 0 (P.m 0))++alr P 1 (P.m 1)).length<=_;rw [uR,lx,am7,am7,h.m0,h.m1]; decide
 ·rcases k01 k hk with rfl | rfl
  ·rw [h.L0]; exact bp5 b06 (by decide)
  ·rw [h.L1]; exact bp5 bY3 (by decide)
 ·rw [hm k hk]; decide
 ·have hj:j<P.n:=hj;obtain ⟨rfl,rfl⟩:i=0/\j=1:=by omega
  rw [h.k0,h.k1]; decide
 ·have hj:j<P.n:=hj;obtain ⟨rfl,rfl⟩:i=0/\j=1:=by omega
  have h1:=(h.mem0 y x).1 hi';have h2:=(h.mem1 y x).1 hj';omega
 ·have hk:k+1<P.n:=hk;obtain rfl:k=0:=by omega
  show (P.p 0 0).y<(P.p 1 0).y\/((P.p 0 0).y=(P.p 1 0).y/\(P.p 0 0).x0<=(P.p 1 0).x0);rw [h.p0 0 (by decide),h.p1 0 (by decide)];exact .inr ⟨rfl,by decide⟩
 ·rcases k01 k hk with rfl | rfl
  ·show kOf (P.ink 0)≠nul;rw [h.k0]; decide
  ·show kOf (P.ink 1)≠nul;rw [h.k1]; decide
 ·have hk:k<P.n:=hk;have hr:r<P.m k:=hr;have hr16:r<16:=by rw [hm k hk] at hr; exact hr
  show (0<=(P.p k r).y/\(P.p k r).y<16*((1:Nat):Int))/\0<=(P.p k r).x0/\(P.p k r).x1<=16*((1:Nat):Int);rcases k01 k hk with rfl | rfl
  ·rw [h.p0 r hr16];show (0<=(0:Int)+r/\(0:Int)+r<16*((1:Nat):Int))/\0<=(0:Int)/\(8:Int)<=16*((1:Nat):Int);omega
  ·rw [h.p1 r hr16];show (0<=(0:Int)+r/\(0:Int)+r<16*((1:Nat):Int))/\0<=(8:Int)/\(16:Int)<=16*((1:Nat):Int);omega
 ·rcases k01 k hk with rfl | rfl
  ·exact ⟨0,h.k0⟩
  ·exact ⟨8,h.k1⟩
 ·show _<->((0<=y/\y<16*((1:Nat):Int))/\0<=x/\x<16*((1:Nat):Int))/\kOf (og2.f (ix 1 y x))=_;rcases k01 k hk with rfl | rfl
  ·rw [h.mem0,h.k0];constructor
   ·intro hc;exact ⟨by omega,by rw [bw5 (by omega) (by omega),lm (by omega)]⟩
   ·rintro ⟨hin,he⟩;rw [bw5 (by omega) (by omega)] at he;by_cases hc:x<8
    ·omega
    ·rw [lr hc] at he;exact absurd he (by decide)
  ·rw [h.mem1,h.k1];constructor
   ·intro hc;exact ⟨by omega,by rw [bw5 (by omega) (by omega),lr (by omega)]⟩
   ·rintro ⟨hin,he⟩;rw [bw5 (by omega) (by omega)] at he;by_cases hc:x<8
    ·rw [lm hc] at he;exact absurd he (by decide)
    ·omega
 ·have hin:(0<=y/\y<16*((1:Nat):Int))/\0<=x/\x<16*((1:Nat):Int):=hin;have e:ck og2.f (16*og2.w) y x=kOf (if x<8 then vL else vR):=congrArg kOf (bw5 (by omega) (by omega));rw [e];by_cases hc:x<8
  ·rw [lm hc];exact ⟨0,by omega,by rw [h.k0]⟩
  ·rw [lr hc];exact ⟨1,by omega,by rw [h.k1]⟩
theorem bq8:Tk og2 2 o01 2:=by
 refine ⟨⟨lf 1,uG 1⟩,⟨lf 1,uG 1⟩,fun i j hj=>?_,by decide,fun k hk=>?_,fun i j hij hj=>?_,fun i j hj hne=>?_,by decide⟩
 ·show 0<=(if i % 16<8 then vL else vR) j;split
  ·match j,hj with
   | 0,_ | 1,_ | 2,_ | 3,_ | 4,_ | 5,_ | 6,_ | 7,_=>decide
  ·match j,hj with
   | 0,_ | 1,_ | 2,_ | 3,_ | 4,_ | 5,_ | 6,_ | 7,_=>decide
 ·match k,hk with
  | 0,_ | 1,_=>decide
 ·obtain ⟨rfl,rfl⟩:i=0/\j=1:=by omega
  decide
 ·have hne:(if i % 16<8 then vL else vR) j≠0:=hne;match j,hj with
  | 0,_=>exact ⟨0,by decide,rfl⟩
  | 1,_=>exact ⟨1,by decide,rfl⟩
  | 2,_ | 3,_ | 4,_ | 5,_ | 6,_ | 7,_=>split at hne<;>exact absurd rfl hne
theorem tc2 (v:Vec) (W:Nat->Int) (j:Nat):tcF v W 2 o01 2 j=if (v 0=0/\v 1≠0)/\j=0 then W 0 else v j:=by
 have e0:o01 (2-1-1)=0:=rfl;have e1:o01 (2-1-0)=1:=rfl;rw [aL6,aL6,e0,e1,bm4,e1];show (if (v 0=0/\(false||decide (v 1≠0))=true)/\j=0 then W 0 else if (v 1=0/\false=true)/\j=1 then W 1 else v j)=_;rw [lr (fun hc:(v 1=0/\false=true)/\j=1=>by cases hc.1.2)];simp only [lai,lL]
theorem bA0 {f:Nat->Int}{n r i:Nat}{K:Int}(hK:0<=K) (hi:i<n) (h:∀ j,j<n->f j=K):wid f n r i=K:=
 uT (a92 hK fun j _ _ hj=>Int.le_of_eq (h j hj)) (by rw [<-h i hi]; exact aU2 (by omega) (by omega) hi)
section
variable {P:Pcs}(h:Two P)
include h
theorem Two.c {y x:Nat}(hy:y<16) (hx:x<16):kOf ((tk og2 P 2 o01 2).c (y*16+x))=kOf (if x<8 then vL else vR):=by
 have h1:=ce_of h.of (y:=y) (x:=x) (by show ((0:Int)<=y/\(y:Int)<16*((1:Nat):Int))/\(0:Int)<=x/\(x:Int)<16*((1:Nat):Int); omega);have e:ix og2.w y x=y*16+x:=rfl;have e2:=bw5 (y:=y) (x:=x) (by omega) (by omega);have e3:ix 1 (y:Int) (x:Int)=y*16+x:=rfl;rw [e3] at e2;rw [e,e2] at h1;refine h1.trans ?_;by_cases hc:x<8
 ·rw [lm (by omega),lm hc]
 ·rw [lr (by omega),lr hc]
theorem Two.row {y x:Nat}(hy:y<16) (hx:8<=x/\x<16):Tsp.al1 ((tk og2 P 2 o01 2).pl.sp 0) y x=if x<10 then 255 else 0:=by
 have hc:∀ j,j<16->(tk og2 P 2 o01 2).c (y*16+j) 0=if j<8 then 255 else 0:=fun j hj=>by
  rw [aO7 (h.c hy hj) (show 0<8 by decide)];by_cases hc:j<8
  ·rw [lm hc,lm hc]; rfl
  ·rw [lr hc,lr hc]; rfl
 show wid (fun j=>(tk og2 P 2 o01 2).c (y*16+j) 0) 16 2 x=_;by_cases h10:x<10
 ·rw [lm h10];refine uT (bh9 (by decide) fun j hj=>?_) ?_
  ·show (tk og2 P 2 o01 2).c (y*16+j) 0<=255;rw [hc j hj]; split<;>decide
  ·have:=aU2 (f:=fun j=>(tk og2 P 2 o01 2).c (y*16+j) 0) (n:=16) (r:=2) (i:=x) (j:=7) (by omega) (by omega) (by omega)
   refine Int.le_trans ?_ this;show 255<=(tk og2 P 2 o01 2).c (y*16+7) 0;rw [hc 7 (by decide)]; decide
 ·rw [lr h10];refine uT (a92 (by decide) fun j h1 h2 hj=>?_) (bn3 _ _ _ _);show (tk og2 P 2 o01 2).c (y*16+j) 0<=0;rw [hc j hj,lr (by omega)];decide
theorem Two.W {y x:Nat}(hy:y<16) (hx:8<=x/\x<16):(tk og2 P 2 o01 2).W (y*16+x) 0=if x<10 then 255 else 0:=by
 show spr ((tk og2 P 2 o01 2).pl.sp 0) (y*16+x)=_;unfold spr;have ew:((tk og2 P 2 o01 2).pl.sp 0).w=16:=rfl;rw [ew,aC5 (by omega),aI1 (by omega)];exact bA0 (by split<;>decide) hy fun a ha=>h.row ha hx
theorem Two.f {y x:Nat}(hy:y<16) (hx:x<16):kOf ((tk og2 P 2 o01 2).of.f (y*16+x))=if x<8 then [255,0,0,0,0,0,0,0] else if x<10 then [255,200,0,0,0,0,0,0] else [0,200,0,0,0,0,0,0]:=by
 have hN:y*16+x<(tk og2 P 2 o01 2).N:=by show y*16+x<256*1*1; omega
 rw [aY3 hN];have hc:=h.c hy hx;have hv:=fun j (hj:j<8)=>aO7 hc hj
 have et:∀ j,tcF ((tk og2 P 2 o01 2).c (y*16+x)) ((tk og2 P 2 o01 2).W (y*16+x)) 2 o01 2 j=_:=fun j=>tc2 _ _ j
 have v0:=hv 0 (by decide);have v1:=hv 1 (by decide);by_cases h8:x<8
 ·rw [lm h8] at hc v0 v1 ⊢;have:kOf (tcF ((tk og2 P 2 o01 2).c (y*16+x)) ((tk og2 P 2 o01 2).W (y*16+x)) 2 o01 2)=kOf ((tk og2 P 2 o01 2).c (y*16+x)):=congrArg kOf (funext fun j=>by
   rw [et,lr fun hc=>by rw [v0] at hc; exact absurd hc.1.1 (by decide)])
  rw [this,hc];rfl
 ·rw [lr h8] at hc v0 v1 ⊢;have hW:=h.W hy (show 8<=x/\x<16 by omega);have e0:∀ j,j≠0->tcF ((tk og2 P 2 o01 2).c (y*16+x)) ((tk og2 P 2 o01 2).W (y*16+x)) 2 o01 2 j=(tk og2 P 2 o01 2).c (y*16+x) j:=fun j hj=>by rw [et,lr fun hc=>hj hc.2]
  have e1:tcF ((tk og2 P 2 o01 2).c (y*16+x)) ((tk og2 P 2 o01 2).W (y*16+x)) 2 o01 2 0=if x<10 then 255 else 0:=by rw [et,lm ⟨⟨v0,by rw [v1]; decide⟩,rfl⟩,hW]
  have e2:kOf (tcF ((tk og2 P 2 o01 2).c (y*16+x)) ((tk og2 P 2 o01 2).W (y*16+x)) 2 o01 2)=[if x<10 then 255 else 0,200,0,0,0,0,0,0]:=by
   unfold kOf;rw [e1,e0 1 (by decide),e0 2 (by decide),e0 3 (by decide),e0 4 (by decide),e0 5 (by decide),e0 6 (by decide),e0 7 (by decide),hv 1 (by decide),hv 2 (by decide),hv 3 (by decide),hv 4 (by decide),hv 5 (by decide),hv 6 (by decide),hv 7 (by decide),lr h8];rfl
  rw [e2];split<;>rfl
theorem Two.three:(Gt.P (ofA (tk og2 P 2 o01 2).of)).n=3/\kOf ((Gt.P (ofA (tk og2 P 2 o01 2).of)).ink 1)=[255,200,0,0,0,0,0,0]:=by
 have H:=aL5 bq8 h.of;generalize Gt.P (ofA (tk og2 P 2 o01 2).of)=Q at H;have fE:∀ y x:Int,((0<=y/\y<16)/\0<=x/\x<16)->ck (tk og2 P 2 o01 2).of.f (16*(tk og2 P 2 o01 2).of.w) y x=if x<8 then [255,0,0,0,0,0,0,0] else if x<10 then [255,200,0,0,0,0,0,0] else [0,200,0,0,0,0,0,0]:=fun y x hin=>by
  have e:=h.f (y:=y.toNat) (x:=x.toNat) (by omega) (by omega);show kOf ((tk og2 P 2 o01 2).of.f (y.toNat*16+x.toNat))=_;rw [e];by_cases h8:x<8
  ·rw [lm h8,lm (by omega)]
  ·rw [lr h8,lr (by omega)];by_cases h10:x<10
   ·rw [lm h10,lm (by omega)]
   ·rw [lr h10,lr (by omega)]
 have inE:∀ y x:Int,((0<=y/\y<16*(((tk og2 P 2 o01 2).of.h:Nat):Int))/\0<=x/\x<16*(((tk og2 P 2 o01 2).of.w:Nat):Int))<->((0<=y/\y<16)/\0<=x/\x<16):=fun y x=>by
  show ((0<=y/\y<16*((1:Nat):Int))/\0<=x/\x<16*((1:Nat):Int))<->_;omega
 obtain ⟨a,ha,ea⟩:=H.cov 0 0 ((inE 0 0).2 (by omega)) (by rw [fE 0 0 (by omega)]; decide);obtain ⟨b,hb,eb⟩:=H.cov 0 8 ((inE 0 8).2 (by omega)) (by rw [fE 0 8 (by omega)]; decide);obtain ⟨c,hc,ec⟩:=H.cov 0 10 ((inE 0 10).2 (by omega)) (by rw [fE 0 10 (by omega)]; decide);have ma:=(H.m a ha 0 0).2 ⟨(inE 0 0).2 (by omega),ea.symm⟩;have mb:=(H.m b hb 0 8).2 ⟨(inE 0 8).2 (by omega),eb.symm⟩;have mc:=(H.m c hc 0 10).2 ⟨(inE 0 10).2 (by omega),ec.symm⟩;rw [fE 0 0 (by omega),lm (by decide)] at ea;rw [fE 0 8 (by omega),lr (by decide),lm (by decide)] at eb;rw [fE 0 10 (by omega),lr (by decide),lr (by decide)] at ec;have inj:∀ i j,i<Q.n->j<Q.n->kOf (Q.ink i)=kOf (Q.ink j)->i=j:=fun i j hi hj he=>by
  rcases xL i j with hl | hl | hl
  ·exact absurd he (H.c.P.dist i j hl hj)
  ·exact hl
  ·exact absurd he.symm (H.c.P.dist j i hl hi)
 have first:∀ k,k<Q.n->∀ x0:Int,mem (Pcs.L Q k) 0 x0=true->(∀ y x,mem (Pcs.L Q k) y x=true->x0<=x)->(Q.p k 0).y=0/\(Q.p k 0).x0=x0:=fun k hk x0 hm hall=>by
  have ne:=H.c.P.ne k hk;have hv:=H.c.P.v k hk;have hr:=(H.c.r k 0 hk ne).1.1;have ne:0<Q.m k:=ne;have e:Pcs.L Q k=Q.p k 0::Lf (fun i=>Q.p k (i+1)) (Q.m k-1):=by
   show (List.range (Q.m k)).map (Q.p k)=_::(List.range (Q.m k-1)).map _;obtain ⟨m,hm⟩:∃ m,Q.m k=m+1:=⟨Q.m k-1,by omega⟩
   rw [hm,List.range_succ_eq_map,xM,List.map_map];rfl
  rw [e] at hv hm hall;have h1:=aB3 hv;have h2:=aE8 hv hm;have h3:=hall _ _ h1;have hr:0<=(Q.p k 0).y:=hr;omega
 have fa:=first a ha 0 ma fun y x hm=>by have:=(inE y x).1 ((H.m a ha y x).1 hm).1; omega
 have fb:=first b hb 8 mb fun y x hm=>by
  obtain ⟨h1,h2⟩:=(H.m b hb y x).1 hm;have h1:=(inE y x).1 h1;rw [fE y x h1,eb] at h2;by_cases h8:x<8
  ·rw [lm h8] at h2; exact absurd h2 (by decide)
  ·omega
 have fc:=first c hc 10 mc fun y x hm=>by
  obtain ⟨h1,h2⟩:=(H.m c hc y x).1 hm;have h1:=(inE y x).1 h1;rw [fE y x h1,ec] at h2;by_cases h8:x<8
  ·rw [lm h8] at h2; exact absurd h2 (by decide)
  ·rw [lr h8] at h2;by_cases h10:x<10
   ·rw [lm h10] at h2; exact absurd h2 (by decide)
   ·omega
 have all:∀ k,k<Q.n->k=a\/k=b\/k=c:=fun k hk=>by
  have ne:=H.c.P.ne k hk;have hr:=ay3 (P:=Q) ne;have okr:=((H.c.P.v k hk).1 _ hr).2;obtain ⟨h1,h2⟩:=(H.m k hk _ _).1 ((mem_iff _ _ _).2 ⟨_,hr,rfl,xl _,okr⟩);have h1:=(inE _ _).1 h1;rw [fE _ _ h1] at h2;split at h2
  ·exact .inl (inj k a hk ha (h2.symm.trans ea.symm))
  ·split at h2
   ·exact .inr (.inl (inj k b hk hb (h2.symm.trans eb.symm)))
   ·exact .inr (.inr (inj k c hk hc (h2.symm.trans ec.symm)))
 have key:∀ i j,i<j->j<Q.n->(Q.p i 0).y<(Q.p j 0).y\/((Q.p i 0).y=(Q.p j 0).y/\(Q.p i 0).x0<=(Q.p j 0).x0):=fun i j hij hj=>by
  induction j with
  | zero=>omega
  | succ j ih=>
   have h1:=H.c.P.ord j hj;by_cases hji:i=j
   ·subst hji; exact h1
   ·have h2:=ih (by omega) (by have hj:j+1<Q.n:=hj; show j<Q.n; omega);have h1:(Q.p j 0).y<(Q.p (j+1) 0).y\/((Q.p j 0).y=(Q.p (j+1) 0).y/\(Q.p j 0).x0<=(Q.p (j+1) 0).x0):=h1;omega
 have ab:a<b:=by
  rcases xL a b with hl | hl | hl
  ·exact hl
  ·subst hl; omega
  ·have:=key b a hl ha; omega
 have bc:b<c:=by
  rcases xL b c with hl | hl | hl
  ·exact hl
  ·subst hl; omega
  ·have:=key c b hl hb; omega
 have h0:=all 0 (by omega);have h1:=all 1 (by omega);have h2:=all 2 (by omega);obtain ⟨rfl,rfl,rfl⟩:a=0/\b=1/\c=2:=by omega
 refine ⟨?_,eb⟩;rcases ug 3 Q.n with hlt | hge
 ·have:=all 3 hlt; omega
 ·omega
end
end Trt
namespace Trd
open Go.RowKit Sx Num Aff Con Rga Rgl Rgm Rgn Rgc Rgd Gat Gar Ows Apl Apt Cel Ofl Ftp Cof Wid Trp Tsp Tpn Tco Ttr Trq Trt
def cg8:FSpec:=ab0 4 (γ:=Unit) (fun | []=>some () | _=>none) (fun _=>[]) (fun _=>True) (fun _=> .bool true)
structure PA where
 n:Nat
 p:Nat->Rn
 m:Nat
 q:Nat->Rn
def pc8D (s:SV):Pcs:=match s with
 | .sl n _ f=>⟨n,fun i=>aj5 (f i 0),fun i=>rgD (f i 0),fun i=>v8 (Sx.intOf (f i 1)) (Sx.intOf (f i 2)) (Sx.intOf (f i 3)) (Sx.intOf (f i 4)) (Sx.intOf (f i 5)) (Sx.intOf (f i 6)) (Sx.intOf (f i 7)) (Sx.intOf (f i 8))⟩
 | _=>⟨0,fun _=>0,fun _ _=>⟨0,0,0⟩,fun _ _=>0⟩
noncomputable def bE1:FSpec:=b42 (fun | [.int _ w,.int _ h,s,.sl m _ o,.int _ r]=>some ⟨w.toNat,h.toNat,pc8D s,m,fun k=>(Sx.intOf (o k 0)).toNat,r.toNat⟩ | _=>none)
theorem bR9:aa7 Tw.prog bE1:=bq5 _
def td3:Inv:=⟨PA,fun s=>(s.n=(Lf lrc.f lrc.n).length/\s.p=rI (Lf lrc.f lrc.n))/\s.m=(Lf rrc.f rrc.n).length/\s.q=rI (Lf rrc.f rrc.n),fun s=>⟨[(1,rgS ⟨s.n,s.p⟩),(3,rgS ⟨s.m,s.q⟩)],[]⟩,fun _=>0⟩
def td4:Inv:=⟨Pcs,fun Q=>Q.n=3/\kOf (Q.ink 1)=[255,200,0,0,0,0,0,0],fun Q=>⟨[(5,pcS Q),(6,.int .i64 0)],[]⟩,fun _=>0⟩
def twoP (s:PA):Gar.Pcs:=Gar.Pcs.mk 2 (fun i=>bif decide (i=1) then s.m else s.n) (fun i j=>Rn.mk (bif decide (i=1) then (s.q j).y else (s.p j).y) (bif decide (i=1) then (s.q j).x0 else (s.p j).x0) (bif decide (i=1) then (s.q j).x1 else (s.p j).x1))
 (fun i=>v8 (bif decide (i=1) then 0 else 255) (bif decide (i=1) then 200 else 0) (bif decide (i=1) then 0 else 0) (bif decide (i=1) then 0 else 0) (bif decide (i=1) then 0 else 0) (bif decide (i=1) then 0 else 0) (bif decide (i=1) then 0 else 0) (bif decide (i=1) then 0 else 0))
theorem cf3 {s:PA}(h:td3.pre s):Two (twoP s):=by
 obtain ⟨⟨h1,h2⟩,h3,h4⟩:(s.n=(Lf lrc.f lrc.n).length/\s.p=rI (Lf lrc.f lrc.n))/\s.m=(Lf rrc.f rrc.n).length/\s.q=rI (Lf rrc.f rrc.n):=h;refine ⟨rfl,?_,?_,fun r hr=>?_,fun r hr=>?_,rfl,rfl⟩
 ·show s.n=16;rw [h1,aw3]; rfl
 ·show s.m=16;rw [h3,aw3]; rfl
 ·show s.p r=_;rw [h2];exact aX5 lrc.f (show r<lrc.n from hr)
 ·show s.q r=_;rw [h4];exact aX5 rrc.f (show r<rrc.n from hr)
theorem ck9:aa7 Tw.prog cg8:=by
 refine seW (specs:=[bX5,bE1]) ⟨b88,bR9,trivial⟩ (eqs:=eqI) bs0 Tw.func4 (fun g=>(⟨[(3,.cut td3),(4,.cut td4)],[]⟩:Ann)) ?_;rintro _ _;refine ad5 (B:=let T5:=fun p:Prop=>True/\True/\True/\True/\True/\p;let T8:=fun p:Prop=>True/\True/\True/\True/\True/\True/\True/\True/\p;let A:=Aq;let z26:=(Int.toNat (2:Int));let z17:=(2:Nat);let z11:=(1:Nat);let z10:=(Int.toNat (1:Int));let z8:=(IntKind.u8=IntKind.u8);let z4:=(0:Int);let z16:=(fun (k:Nat)=>(bif decide (k=z11) then (1:Int) else z4).toNat);let z9:=(ReG.mk z4 z4 (8:Int) (16:Int));let z7:=(ReG.mk (8:Int) z4 (16:Int) (16:Int));let z3:=(IntKind.i64=IntKind.i64);let q3:=fun p:Int=>A z3/\A (p=p);let z25:=(q3 ((8:Int)));let z23:=(A z3/\A ((1:Int)=(↑z10:Int)));let z20:=(q3 z4);let z15:=(q3 ((16:Int)));True/\((z20/\z20/\z25/\z15/\True)/\A z9.ok)/\T5 ((((z25/\z20/\z15/\z15/\True)/\A z7.ok)/\T5 (∃ g:PA,A (td3.pre g)/\((A ((Lf z9.f z9.n).length=g.n)/\∀ i:Nat,let z21:=(rI (Lf z9.f z9.n) i); i<g.n->((True/\A z3/\A (z21.y=(g.p i).y))/\A z3/\A (z21.x0=(g.p i).x0))/\A z3/\A (z21.x1=(g.p i).x1))/\(A ((Lf z7.f z7.n).length=g.m)/\∀ i:Nat,let z22:=(rI (Lf z7.f z7.n) i); i<g.m->((True/\A z3/\A (z22.y=(g.q i).y))/\A z3/\A (z22.x0=(g.q i).x0))/\A z3/\A (z22.x1=(g.q i).x1))/\True)/\True))/\∀ g:PA,let z19:=(fun (i:Nat)=>bif decide (i=z11) then g.m else g.n);let z0:=(TrG.mk z10 z10 (Gar.Pcs.mk z17 z19 (fun (i i_1:Nat)=>Rn.mk (bif decide (i=z11) then (g.q i_1).y else (g.p i_1).y) (bif decide (i=z11) then (g.q i_1).x0 else (g.p i_1).x0) (bif decide (i=z11) then (g.q i_1).x1 else (g.p i_1).x1)) fun (i:Nat)=>let z13:=(bif decide (i=z11) then z4 else z4); Trt.v8 (bif decide (i=z11) then z4 else (255:Int)) (bif decide (i=z11) then (200:Int) else z4) z13 z13 z13 z13 z13 z13) z17 z16 z26);let z27:=(ofA z0.of);let z12:=(Gar.Gt.P z27); td3.pre g->(T8 (((z23/\z23/\(A (z17=z17)/\∀ i:Nat,let z18:=(i=z11);let z6:=(bif decide z18 then (200:Int) else z4);let z5:=(bif decide z18 then z4 else (255:Int));let z1:=(bif decide z18 then z4 else z4); i<z17->((((((((True/\A ((bif decide z18 then g.m else g.n)=bif decide z18 then g.m else g.n)/\∀ i_1:Nat,(i_1<bif decide z18 then g.m else g.n)->((True/\A z3/\A ((bif decide z18 then (g.q i_1).y else (g.p i_1).y)=bif decide z18 then (g.q i_1).y else (g.p i_1).y))/\A z3/\A ((bif decide z18 then (g.q i_1).x0 else (g.p i_1).x0)=bif decide z18 then (g.q i_1).x0 else (g.p i_1).x0))/\A z3/\A ((bif decide z18 then (g.q i_1).x1 else (g.p i_1).x1)=bif decide z18 then (g.q i_1).x1 else (g.p i_1).x1))/\A z8/\A (z5=Trt.v8 z5 z6 z1 z1 z1 z1 z1 z1 (0:Nat)))/\A z8/\A (z6=Trt.v8 z5 z6 z1 z1 z1 z1 z1 z1 z11))/\A z8/\A (z1=Trt.v8 z5 z6 z1 z1 z1 z1 z1 z1 z17))/\A z8/\A (z1=Trt.v8 z5 z6 z1 z1 z1 z1 z1 z1 (3:Nat)))/\A z8/\A (z1=Trt.v8 z5 z6 z1 z1 z1 z1 z1 z1 (4:Nat)))/\A z8/\A (z1=Trt.v8 z5 z6 z1 z1 z1 z1 z1 z1 (5:Nat)))/\A z8/\A (z1=Trt.v8 z5 z6 z1 z1 z1 z1 z1 z1 (6:Nat)))/\A z8/\A (z1=Trt.v8 z5 z6 z1 z1 z1 z1 z1 z1 (7:Nat)))/\(A (z17=z17)/\∀ i:Nat,let z24:=(bif decide (i=z11) then (1:Int) else z4); i<z17->True/\A z3/\A (z24=(↑z24.toNat:Int)))/\(A z3/\A ((2:Int)=(↑z26:Int)))/\True)/\A (z0.Ok/\z0.ck.Ok))/\T5 (∃ g_1:Gar.Pcs,A (td4.pre g_1)/\((A ((bif z27.full then (0:Nat) else z27.n)=g_1.n)/\∀ i:Nat,i<g_1.n->((((((((True/\A (z12.m i=g_1.m i)/\∀ i_1:Nat,let z2:=((Gar.Gt.P (ofA (TrG.mk z10 z10 (Gar.Pcs.mk z17 z19 (fun (i i_2:Nat)=>Rn.mk (bif decide (i=z11) then (g.q i_2).y else (g.p i_2).y) (bif decide (i=z11) then (g.q i_2).x0 else (g.p i_2).x0) (bif decide (i=z11) then (g.q i_2).x1 else (g.p i_2).x1)) fun (i:Nat)=>let z14:=(bif decide (i=z11) then z4 else z4); Trt.v8 (bif decide (i=z11) then z4 else (255:Int)) (bif decide (i=z11) then (200:Int) else z4) z14 z14 z14 z14 z14 z14) z17 z16 z26).of)).p i i_1); i_1<g_1.m i->((True/\A z3/\A (z2.y=(g_1.p i i_1).y))/\A z3/\A (z2.x0=(g_1.p i i_1).x0))/\A z3/\A (z2.x1=(g_1.p i i_1).x1))/\A z8/\A (z12.ink i (0:Nat)=g_1.ink i (0:Nat)))/\A z8/\A (z12.ink i z11=g_1.ink i z11))/\A z8/\A (z12.ink i z17=g_1.ink i z17))/\A z8/\A (z12.ink i (3:Nat)=g_1.ink i (3:Nat)))/\A z8/\A (z12.ink i (4:Nat)=g_1.ink i (4:Nat)))/\A z8/\A (z12.ink i (5:Nat)=g_1.ink i (5:Nat)))/\A z8/\A (z12.ink i (6:Nat)=g_1.ink i (6:Nat)))/\A z8/\A (z12.ink i (7:Nat)=g_1.ink i (7:Nat)))/\(A z3/\A ((bif z27.full then (2:Int) else z4)=z4))/\True)/\True)))/\∀ g:Gar.Pcs,td4.pre g->T8 (Br (decide ((↑g.n:Int)=(3:Int))) (True/\A (z4<=(1:Int)/\(1:Int)<(↑g.n:Int))/\T5 (True/\True/\A ((decide (g.ink z10 (0:Nat)=(255:Int))&&(decide (g.ink z10 z11=(200:Int))&&(decide (g.ink z10 z17=z4)&&(decide (g.ink z10 (3:Nat)=z4)&&(decide (g.ink z10 (4:Nat)=z4)&&(decide (g.ink z10 (5:Nat)=z4)&&(decide (g.ink z10 (6:Nat)=z4)&&(decide (g.ink z10 (7:Nat)=z4)&&true))))))))=true))) (True/\True/\True/\A (false=true))))) ?_;simp only [cln,lF,lS,xg];refine ⟨b06,⟨bY3,⟨⟨_,rI (Lf lrc.f lrc.n),_,rI (Lf rrc.f rrc.n)⟩,⟨⟨rfl,rfl⟩,rfl,rfl⟩,⟨rfl,fun _ _=>⟨⟨rfl,rfl⟩,rfl⟩⟩,rfl,fun _ _=>⟨⟨rfl,rfl⟩,rfl⟩⟩⟩,fun s hs=>?_⟩;have h2:=cf3 hs;have h3:=h2.three;have hT:=aL5 bq8 h2.of;refine ⟨⟨⟨⟨rfl,rfl,fun i _=>⟨⟨⟨⟨⟨⟨⟨rfl,rfl⟩,rfl⟩,rfl⟩,rfl⟩,rfl⟩,rfl⟩,rfl⟩,fun i hi=>?_,rfl⟩,bP6 bq8 h2.of,cf6 bq8 h2.of⟩,Gt.P (ofA (tk og2 (twoP s) 2 o01 2).of),h3,pEq (P:=Gt.P (ofA (tk og2 (twoP s) 2 o01 2).of)) rfl,?_⟩,fun Q hQ=>⟨fun hn=>⟨by omega,?_⟩,fun hn=>?_⟩⟩
 ·match i,hi with
  | 0,_=>rfl
  | 1,_=>rfl
 ·show (bif (ofA (tk og2 (twoP s) 2 o01 2).of).full then (2:Int) else 0)=0;rw [hT.n]; rfl
 ·obtain ⟨_,hk⟩:Q.n=3/\kOf (Q.ink 1)=[255,200,0,0,0,0,0,0]:=hQ;unfold kOf at hk;simp only [List.cons.injEq,and_true] at hk;obtain ⟨e0,e1,e2,e3,e4,e5,e6,e7⟩:=hk;show (decide (Q.ink 1 0=255)&&(decide (Q.ink 1 1=200)&&(decide (Q.ink 1 2=0)&&(decide (Q.ink 1 3=0)&&(decide (Q.ink 1 4=0)&&(decide (Q.ink 1 5=0)&&(decide (Q.ink 1 6=0)&&(decide (Q.ink 1 7=0)&&true))))))))=true;rw [e0,e1,e2,e3,e4,e5,e6,e7];rfl
 ·obtain ⟨h,_⟩:Q.n=3/\kOf (Q.ink 1)=[255,200,0,0,0,0,0,0]:=hQ;omega
end Trd
end Go.Proofs.YtbkgncikjhibiaaGreat
