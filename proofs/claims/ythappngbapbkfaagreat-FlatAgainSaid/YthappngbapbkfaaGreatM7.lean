/- Part 7 of the texts that the law's proof leans on. -/
import Derived.Test.YthappngbapbkfaaGreatM6
import Derived.Shelf.Small.Bits
import Derived.Shelf.Strconv.Itoa0
import Derived.Test.YthappngbapbkfaaGreatProg
import Derived.Lib.ItoaNum
namespace Go.Proofs.YthappngbapbkfaaGreat
set_option linter.unusedSimpArgs false
set_option linter.unusedVariables false
namespace Lcs
open Go.RowKit Sx Num Aff Afi Img Imh Rga Blend Ble Lsg Lta Lrd Lri Luc Lck Lgr
set_option maxRecDepth 100000
structure FwG where
 f:Nat->Int
 n:Nat
def ah3 (g:FwG):Prop:=∀ j,g.n<=j->j<8->g.f j=0
instance (g:FwG):Decidable (ah3 g):=decidable_of_iff (∀ j,j<8->g.n<=j->g.f j=0) ⟨fun h j a b=>h j b a,fun h j a b=>h j b a⟩
def arrD:SV->Nat->Int
 | .agg _ g=>fun j=>Sx.intOf (g j)
 | _=>fun _=>0
def fwI (g:FwG):Inv:=⟨Nat,fun i=>i<=8-g.n/\∀ j,g.n<=j->j<g.n+i->g.f j=0,fun i=>⟨[(8,.sl (8-g.n) 1 (fun i _=> .int .u8 (g.f (g.n+i)))),(9,.int .i64 (8-g.n:Nat)),(10,.int .i64 i)],[]⟩,fun i=>8-g.n-i⟩
def bZ8:FSpec:=aa3 52 (γ:=FwG) (fun | [a,.int _ n]=>some ⟨arrD a,n.toNat⟩ | _=>none) (fun g=>[.agg 8 (fun j=> .int .u8 (g.f j)),.int .i64 g.n]) (fun g=>g.n<=8) (fun g=> .bool (decide (ah3 g)))
theorem b33:aa2 Tryz.prog bZ8:=by
 refine ssW (specs:=[]) trivial Tryz.func52 (fun g=>(⟨[(2,.inv (fwI g))],[(1,[.tmp 2])]⟩:Ann)) ?_;rintro ⟨f,n⟩ hn0;refine ab2 (B:=let A:=Sx.Ask;let z3:=(8:Nat);let z2:=(fwI (FwG.mk f n));let z1:=(IntKind.i64=IntKind.i64);let z0:=(↑(z3-n):Int);True/\True/\True/\A ((0:Int)<=(↑n:Int)/\(↑n:Int)<=(↑z3:Int))/\True/\True/\(∃ g:Nat,A (z2.pre g)/\((A (z3-(↑n:Int).toNat=z3-n)/\∀ i:Nat,i<z3-n->True/\A (IntKind.u8=IntKind.u8)/\A (f ((0:Nat)+((↑n:Int).toNat+i))=f (n+i)))/\(A z1/\A ((↑(z3-(↑n:Int).toNat):Int)=z0))/\(A z1/\A ((0:Int)=(↑g:Int)))/\True)/\True)/\∀ g:Nat,let z4:=(↑g:Int); z2.pre g->True/\Br (decide (z4<z0)) (A ((0:Int)<=z4/\z4<z0)/\True/\True/\True/\True/\Br (decide (f (n+z4.toNat)≠(0:Int))) (True/\True/\A (false=decide (ah3 (FwG.mk f n)))) (A ((-9223372036854775808:Int)<=z4+(1:Int)/\z4+(1:Int)<=(9223372036854775807:Int))/\True/\∃ (g':Nat),A (z2.pre g')/\(((A (z3-n=z3-n)/\∀ i:Nat,i<z3-n->True/\A (IntKind.u8=IntKind.u8)/\A (f (n+i)=f (n+i)))/\(A z1/\A (z0=z0))/\(A z1/\A (z4+(1:Int)=(↑g':Int)))/\True)/\True)/\A (z2.meas g'<z2.meas g))) (True/\True/\A (true=decide (ah3 (FwG.mk f n))))) (by kernel_rfl) ?_;simp only [cln];have hn:n<=8:=hn0;clear hn0;simp only [lw];refine ⟨by omega,⟨0,⟨lm _,fun j h1 h2=>absurd h2 (xF.2 h1)⟩,by simp⟩,fun q hq=>?_⟩;obtain ⟨q1,q2⟩:q<=8-n/\∀ j,n<=j->j<n+q->f j=0:=hq;refine ⟨fun hlt=>⟨by omega,fun h=>(li fun hf=>h (hf (n+q) (Nat.le_add_right n q) (by omega))).symm,fun h=>⟨by omega,q+1,⟨(show q+1<=8-n by omega),fun j h1 h2=>?_⟩,by simp,(show 8-n-(q+1)<8-n-q by omega)⟩⟩,fun hge=>(lk (show ah3 ⟨f,n⟩ from fun j h1 h2=>q2 j h1 (by have h1:n<=j:=h1; omega))).symm⟩;by_cases e:j=n+q
 ·subst e; exact xc.1 h
 ·have h1:n<=j:=h1;have h2:j<n+(q+1):=h2;exact q2 j h1 (by omega)
theorem a14 {f f':Nat->Int}{n:Nat}(h:∀ j,j<8->f j=f' j):ah3 ⟨f,n⟩<->ah3 ⟨f',n⟩:=
 ⟨fun hf j h1 h2=>(h j h2).symm.trans (hf j h1 h2),fun hf j h1 h2=>(h j h2).trans (hf j h1 h2)⟩
theorem lt8 {p:Nat->Prop}(h0:p 0) (h1:p 1) (h2:p 2) (h3:p 3) (h4:p 4) (h5:p 5) (h6:p 6) (h7:p 7):∀ j,j<8->p j:=fun j hj=>
 match j,hj with
 | 0,_=>h0
 | 1,_=>h1
 | 2,_=>h2
 | 3,_=>h3
 | 4,_=>h4
 | 5,_=>h5
 | 6,_=>h6
 | 7,_=>h7
theorem bz4 {s:Src}(h:grE s=0):1<=s.ns/\s.ns<=16:=by
 unfold grE ap9 at h;simp only at h
 repeat' (split at h)
 all_goals omega
theorem bW9 {g:ImgG}(h:g.chk=0):g.n<=65536:=by
 unfold ImgG.chk at h;split at h
 ·omega
 ·split at h
  ·omega
  ·have q:g.w*g.h<=256*256:=xZ (by omega) (by omega) (by omega) (by omega);omega
def inkF (k:Ink) (j:Nat):Int:=Sx.intOf (lst (inkL k) j)
def csE (s:Src) (n:Nat):Int:=
 if s.kind=0 then (if ¬ isZ s\/¬ isNI s.img then 4 else if ah3 ⟨inkF s.ink,n⟩ then 0 else 4)
 else if s.kind=1\/s.kind=2 then (if grE s≠0 then grE s else if ∀ i,i<s.ns->ah3 ⟨inkF (s.st i).ink,n⟩ then 0 else 4)
 else if s.kind=3 then (if ¬ isZ s\/¬ noI s.ink then 4 else if s.img.chk≠0 then s.img.chk else if ∀ i,i<s.img.n->ah3 ⟨inkF (s.img.px i),n⟩ then 0 else 4)
 else 14
structure CsG where
 s:Src
 n:Nat
def csA (g:CsG) (i:Nat):Prop:=∀ j,j<i->ah3 ⟨inkF (g.s.st j).ink,g.n⟩
instance (g:CsG) (i:Nat):Decidable (csA g i):=inferInstanceAs (Decidable (∀ j,j<i->_))
def csB (g:CsG) (i:Nat):Prop:=∀ j,j<i->ah3 ⟨inkF (g.s.img.px j),g.n⟩
instance (g:CsG) (i:Nat):Decidable (csB g i):=inferInstanceAs (Decidable (∀ j,j<i->_))
def csI1 (g:CsG):Inv:=⟨Nat,fun i=>i<=g.s.ns,fun i=>⟨[(1,.int .i64 g.n),(5,.bool (decide (csA g i))),(38,.sl g.s.ns 9 (fun i=>lst (stpL (g.s.st i)))),(39,.int .i64 g.s.ns),(40,.int .i64 i)],[]⟩,fun i=>g.s.ns-i⟩
def csI2 (g:CsG):Inv:=⟨Nat,fun i=>i<=g.s.img.n,fun i=>⟨[(1,.int .i64 g.n),(5,.bool (decide (csB g i))),(71,.sl g.s.img.n 8 (fun i=>lst (inkL (g.s.img.px i)))),(72,.int .i64 g.s.img.n),(73,.int .i64 i)],[]⟩,fun i=>g.s.img.n-i⟩
def bL8:FSpec:=aa3 36 (γ:=CsG) (fun | [.agg _ g,.int _ n]=>some ⟨srcD g,n.toNat⟩ | _=>none) (fun g=>[srcS g.s,.int .i64 g.n]) (fun g=>g.n<=8) (fun g=> .int .i64 (csE g.s g.n))
theorem bT4:aa2 Tryz.prog bL8:=by
 refine seW (specs:=[bZ8,br8,a86,bL5,bf0]) (⟨b33,bv1,bg3,bT1,bw3,trivial⟩) (eqs:=Lck.eqP) aQ9 Tryz.func36 (fun g=>(⟨[(14,.inv (csI1 g)),(25,.inv (csI2 g))],[]⟩:Ann)) ?_;rintro ⟨s,n⟩ hn;refine ab2 (B:=let T2:=fun p:Prop=>True/\True/\p;let T3:=fun p:Prop=>True/\True/\True/\p;let T5:=fun p:Prop=>True/\True/\True/\True/\True/\p;let K:=Br;let A:=Sx.Ask;let z23:=(↑s.img.n:Int);let z21:=(1:Int);let z20:=(((qG True s.img s.img)/\True)/\A True);let z17:=(↑n:Int);let z22:=(z17.toNat<=(8:Nat));let z15:=(0:Int);let z14:=(((qS True s s)/\True)/\A True);let z7:=(A (s.img.n=s.img.n)/\∀ i:Nat,i<s.img.n->(qI True (s.img.px i) (s.img.px i)));let z6:=(CsG.mk s n);let z25:=(csI2 z6);let z24:=(csI1 z6);let z2:=(IntKind.i64=IntKind.i64);let q2:=fun p:Int=>A z2/\A (p=p);let z16:=(T3 (A z2/\A ((4:Int)=csE s n)));let z13:=(q2 ((↑s.ns:Int)));let z12:=(T2 (A z2/\A (z15=csE s n)));let z9:=(q2 z23);let z8:=(A z2/\A (z17=(↑z17.toNat:Int)));let z5:=(T2 (A z2/\A ((4:Int)=csE s n)));let z4:=(q2 z17);let z3:=(A (s.ns=s.ns)/\∀ i:Nat,i<s.ns->(qI (True/\q2 ((s.st i).pos)) ((s.st i).ink) ((s.st i).ink)));let z1:=(True/\z14/\T3 (K (decide (grE s≠z15)) (T3 (A z2/\A (grE s=csE s n))) (T3 (True/\(∃ g:Nat,A (z24.pre g)/\(z4/\A (true=decide (csA z6 g))/\z3/\z13/\(A z2/\A (z15=(↑g:Int)))/\True)/\True)/\∀ g:Nat,let z18:=(↑g:Int);let z10:=((-9223372036854775808:Int)<=z18+z21/\z18+z21<=(9223372036854775807:Int)); z24.pre g->True/\K (decide (z18<(↑s.ns:Int))) (A (z15<=z18/\z18<(↑s.ns:Int))/\T5 (K (decide (csA z6 g)) (T3 ((((qI True ((s.st z18.toNat).ink) ((s.st z18.toNat).ink))/\z8/\True)/\A z22)/\T2 (A z10/\True/\∃ (g':Nat),A (z24.pre g')/\((z4/\A (decide (ah3 (FwG.mk (fun (j:Nat)=>Sx.intOf (lst (stpL (s.st z18.toNat)) ((0:Nat)+((0:Nat)+(1:Nat)+j)))) z17.toNat))=decide (csA z6 g'))/\z3/\z13/\(A z2/\A (z18+z21=(↑g':Int)))/\True)/\True)/\A (z24.meas g'<z24.meas g)))) (T2 (A z10/\True/\∃ (g':Nat),A (z24.pre g')/\((z4/\A (false=decide (csA z6 g'))/\z3/\z13/\(A z2/\A (z18+z21=(↑g':Int)))/\True)/\True)/\A (z24.meas g'<z24.meas g))))) (T2 (K (!decide (csA z6 g)) z5 z12))))));let z0:=(T2 (K (decide (s.kind=(3:Int))) (True/\z14/\T2 (K (!decide (isZ s)) z16 (T5 (K (!(decide (s.ink.c0=z15)&&(decide (s.ink.c1=z15)&&(decide (s.ink.c2=z15)&&(decide (s.ink.c3=z15)&&(decide (s.ink.c4=z15)&&(decide (s.ink.c5=z15)&&(decide (s.ink.c6=z15)&&(decide (s.ink.c7=z15)&&true))))))))) z5 (T2 (z20/\T3 (K (decide (s.img.chk≠z15)) (T3 (A z2/\A (s.img.chk=csE s n))) (T5 ((∃ g:Nat,A (z25.pre g)/\(z4/\A (true=decide (csB z6 g))/\z7/\z9/\(A z2/\A (z15=(↑g:Int)))/\True)/\True)/\∀ g:Nat,let z19:=(↑g:Int);let z26:=(s.img.px z19.toNat);let z11:=((-9223372036854775808:Int)<=z19+z21/\z19+z21<=(9223372036854775807:Int)); z25.pre g->True/\K (decide (z19<z23)) (A (z15<=z19/\z19<z23)/\T5 (K (decide (csB z6 g)) (T2 ((((qI True z26 z26)/\z8/\True)/\A z22)/\T2 (A z11/\True/\∃ (g':Nat),A (z25.pre g')/\((z4/\A (decide (ah3 (FwG.mk (fun (j:Nat)=>Sx.intOf (lst (inkL z26) ((0:Nat)+((0:Nat)+j)))) z17.toNat))=decide (csB z6 g'))/\z7/\z9/\(A z2/\A (z19+z21=(↑g':Int)))/\True)/\True)/\A (z25.meas g'<z25.meas g)))) (T2 (A z11/\True/\∃ (g':Nat),A (z25.pre g')/\((z4/\A (false=decide (csB z6 g'))/\z7/\z9/\(A z2/\A (z19+z21=(↑g':Int)))/\True)/\True)/\A (z25.meas g'<z25.meas g))))) (T2 (K (!decide (csB z6 g)) z5 z12))))))))))) (T2 (A z2/\A ((14:Int)=csE s n)))));T5 (T2 (K (decide (s.kind=z15)) (True/\z14/\T2 (K (!decide (isZ s)) z16 (T2 (z20/\T2 (K (!decide (isNI s.img)) z5 (T3 ((((qI True s.ink s.ink)/\z8/\True)/\A z22)/\T3 (K (!decide (ah3 (FwG.mk (fun (j:Nat)=>Sx.intOf (lst (srcL s) ((0:Nat)+(1:Nat)+j))) z17.toNat))) z5 z12)))))))) (T2 (K (decide (s.kind=z21)) (K (decide (s.kind=z21)) z1 z0) (T2 (K (decide (s.kind=(2:Int))) z1 z0))))))) (by kernel_rfl) ?_;delta qG qI qM qS
 simp only [cln];have hn:n<=8:=hn;have f1:ah3 ⟨fun j=>Sx.intOf (lst (srcL s) (1+j)),n⟩<->ah3 ⟨inkF s.ink,n⟩:=a14 (lt8 rfl rfl rfl rfl rfl rfl rfl rfl);have f2:∀ i,ah3 ⟨fun j=>Sx.intOf (lst (stpL (s.st i)) (1+j)),n⟩<->ah3 ⟨inkF (s.st i).ink,n⟩:=fun i=>a14 (lt8 rfl rfl rfl rfl rfl rfl rfl rfl)
 have f3:∀ i,ah3 ⟨fun j=>Sx.intOf (lst (inkL (s.img.px i)) j),n⟩<->ah3 ⟨inkF (s.img.px i),n⟩:=fun i=>Iff.rfl
 have a0:csA ⟨s,n⟩ 0:=fun j hj=>absurd hj (lj _)
 have b0:csB ⟨s,n⟩ 0:=fun j hj=>absurd hj (lj _)
 have a1:∀ i,csA ⟨s,n⟩ (i+1)<->csA ⟨s,n⟩ i/\ah3 ⟨inkF (s.st i).ink,n⟩:=fun i=>⟨fun h=>⟨fun j hj=>h j (by omega),h i (by omega)⟩,fun h j hj=>by
  by_cases e:j=i
  ·subst e; exact h.2
  ·exact h.1 j (by omega)⟩
 have b1:∀ i,csB ⟨s,n⟩ (i+1)<->csB ⟨s,n⟩ i/\ah3 ⟨inkF (s.img.px i),n⟩:=fun i=>⟨fun h=>⟨fun j hj=>h j (by omega),h i (by omega)⟩,fun h j hj=>by
  by_cases e:j=i
  ·subst e; exact h.2
  ·exact h.1 j (by omega)⟩
 have noI':(s.ink.c0=0/\s.ink.c1=0/\s.ink.c2=0/\s.ink.c3=0/\s.ink.c4=0/\s.ink.c5=0/\s.ink.c6=0/\s.ink.c7=0)<->noI s.ink:=Iff.rfl;simp only [lw,uw,ua,ur,lr,xS,lA,lI,xD,noI',f1,f2,f3,hn];refine ⟨fun h0=>?_,fun h0=>⟨fun h1=>⟨fun _=>?_,fun hc=>absurd h1 hc⟩,fun h1=>⟨fun h2=>?_,fun h2=>⟨fun h3=>?_,fun h3=>?_⟩⟩⟩⟩
 ·have e:csE s n=if ¬ isZ s\/¬ isNI s.img then 4 else if ah3 ⟨inkF s.ink,n⟩ then 0 else 4:=by unfold csE; rw [lg h0]
  refine ⟨fun h=>by rw [e,lg (.inl h)],fun hz=>⟨fun h=>by rw [e,lg (.inr h)],fun hi=>⟨fun h=>?_,fun h=>?_⟩⟩⟩
  ·rw [e,lb (fun hc=>hc.elim (fun c=>c hz) (fun c=>c hi)),lb h]
  ·rw [e,lb (fun hc=>hc.elim (fun c=>c hz) (fun c=>c hi)),lg h]
 ·have hk:s.kind=1\/s.kind=2:=by omega
  have e:csE s n=if grE s≠0 then grE s else if ∀ i,i<s.ns->ah3 ⟨inkF (s.st i).ink,n⟩ then 0 else 4:=by unfold csE; rw [lb h0,lg hk]
  refine ⟨fun hg=>by rw [e,lg hg],fun hg=>?_⟩;have hl:=bz4 (xc.1 hg);refine ⟨⟨0,lm _,(lk a0).symm,rfl⟩,fun q hq=>⟨fun hlt=>⟨by omega,fun ha=>⟨by omega,q+1,(show q+1<=s.ns by omega),⟨xV.2 (by rw [a1]; exact ⟨fun h=>⟨ha,h⟩,fun h=>h.2⟩),by simp⟩,(show s.ns-(q+1)<s.ns-q by omega)⟩,fun ha=>⟨by omega,q+1,(show q+1<=s.ns by omega),⟨(li fun h=>ha ((a1 q).1 h).1).symm,by simp⟩,(show s.ns-(q+1)<s.ns-q by omega)⟩⟩,fun hge=>?_⟩⟩;have hq:q<=s.ns:=hq;have hqq:q=s.ns:=by omega
  have hb:csA ⟨s,n⟩ q<->∀ i,i<s.ns->ah3 ⟨inkF (s.st i).ink,n⟩:=by rw [hqq]; exact Iff.rfl
  exact ⟨fun h=>by rw [e,lb hg,lb (fun hc=>h (hb.2 hc))],fun h=>by rw [e,lb hg,lg (hb.1 h)]⟩
 ·have hk:s.kind=1\/s.kind=2:=by omega
  have e:csE s n=if grE s≠0 then grE s else if ∀ i,i<s.ns->ah3 ⟨inkF (s.st i).ink,n⟩ then 0 else 4:=by unfold csE; rw [lb h0,lg hk]
  refine ⟨fun hg=>by rw [e,lg hg],fun hg=>?_⟩;have hl:=bz4 (xc.1 hg);refine ⟨⟨0,lm _,(lk a0).symm,rfl⟩,fun q hq=>⟨fun hlt=>⟨by omega,fun ha=>⟨by omega,q+1,(show q+1<=s.ns by omega),⟨xV.2 (by rw [a1]; exact ⟨fun h=>⟨ha,h⟩,fun h=>h.2⟩),by simp⟩,(show s.ns-(q+1)<s.ns-q by omega)⟩,fun ha=>⟨by omega,q+1,(show q+1<=s.ns by omega),⟨(li fun h=>ha ((a1 q).1 h).1).symm,by simp⟩,(show s.ns-(q+1)<s.ns-q by omega)⟩⟩,fun hge=>?_⟩⟩;have hq:q<=s.ns:=hq;have hqq:q=s.ns:=by omega
  have hb:csA ⟨s,n⟩ q<->∀ i,i<s.ns->ah3 ⟨inkF (s.st i).ink,n⟩:=by rw [hqq]; exact Iff.rfl
  exact ⟨fun h=>by rw [e,lb hg,lb (fun hc=>h (hb.2 hc))],fun h=>by rw [e,lb hg,lg (hb.1 h)]⟩
 ·have e:csE s n=if ¬ isZ s\/¬ noI s.ink then 4 else if s.img.chk≠0 then s.img.chk else if ∀ i,i<s.img.n->ah3 ⟨inkF (s.img.px i),n⟩ then 0 else 4:=by unfold csE; rw [lb h0,lb (by omega),lg h3]
  refine ⟨fun h=>by rw [e,lg (.inl h)],fun hz=>⟨fun h=>by rw [e,lg (.inr (fun hc=>by unfold noI at hc; omega))],fun hi=>?_⟩⟩;have hni:¬ (¬ isZ s\/¬ noI s.ink):=fun hc=>hc.elim (fun c=>c hz) (fun c=>c hi)
  refine ⟨fun hg=>by rw [e,lb hni,lg hg],fun hg=>?_⟩;have hl:=bW9 (xc.1 hg);refine ⟨⟨0,lm _,(lk b0).symm,rfl⟩,fun q hq=>⟨fun hlt=>⟨by omega,fun ha=>⟨by omega,q+1,(show q+1<=s.img.n by omega),⟨xV.2 (by rw [b1]; exact ⟨fun h=>⟨ha,h⟩,fun h=>h.2⟩),by simp⟩,(show s.img.n-(q+1)<s.img.n-q by omega)⟩,fun ha=>⟨by omega,q+1,(show q+1<=s.img.n by omega),⟨(li fun h=>ha ((b1 q).1 h).1).symm,by simp⟩,(show s.img.n-(q+1)<s.img.n-q by omega)⟩⟩,fun hge=>?_⟩⟩;have hq:q<=s.img.n:=hq;have hqq:q=s.img.n:=by omega
  clear hge hl;have hb:csB ⟨s,n⟩ q<->∀ i,i<s.img.n->ah3 ⟨inkF (s.img.px i),n⟩:=by rw [hqq]; exact Iff.rfl
  exact ⟨fun h=>by rw [e,lb hni,lb hg,lb (fun hc=>h (hb.2 hc))],fun h=>by rw [e,lb hni,lb hg,lg (hb.1 h)]⟩
 ·unfold csE;rw [lb h0,lb (by omega),lb h3]
end Lcs
set_option linter.unusedSimpArgs false
set_option linter.unusedVariables false
namespace Lst
open Go.RowKit Sx Num Aff Afi Img Imh Rga Blend Ble Lsg Lta Lrd Lri Luc Lck Lgr Lcs
set_option maxRecDepth 100000
structure SsG where
 n:Nat
 nm:Nat->ByteArray
 s:ByteArray
def ssS (g:SsG):SV:= .sl g.n 1 (fun i _=> .str (g.nm i))
def sEq (s t:ByteArray):Bool:=s.toList==t.toList
def ssX (nm:Nat->ByteArray) (s:ByteArray):Nat->Nat->Int
 | 0,_=> -1
 | m+1,k=>if sEq s (nm k)=true then (k:Int) else ssX nm s m (k+1)
theorem bD8 {nm s} {n i:Nat}(h:i<n):ssX nm s (n-i) i=if sEq s (nm i)=true then (i:Int) else ssX nm s (n-(i+1)) (i+1):=by
 rw [show n-i=(n-(i+1))+1 by omega]; rfl
def ssI (g:SsG):Inv:=⟨Nat,fun i=>i<=g.n/\ssX g.nm g.s g.n 0=ssX g.nm g.s (g.n-i) i,fun i=>⟨[(0,ssS g),(1,.str g.s),(7,.int .i64 g.n),(8,.int .i64 i)],[]⟩,fun i=>g.n-i⟩
def ssD:List SV->Option SsG
 | [m,.str s]=>some ⟨ai9 m,nmD m,s⟩
 | _=>none
def bL3:FSpec:=aa3 34 (γ:=SsG) ssD (fun g=>[ssS g,.str g.s]) (fun g=>g.n<=1000) (fun g=> .int .i64 (ssX g.nm g.s g.n 0))
theorem bS9:aa2 Tryz.prog bL3:=by
 refine ssW (specs:=[]) trivial Tryz.func34 (fun g=>(⟨[(2,.inv (ssI g))],[]⟩:Ann)) ?_;rintro g hg;refine ab2 (B:=let A:=Sx.Ask;let z1:=(A (g.n=g.n)/\∀ i:Nat,i<g.n->True/\A (g.nm i=g.nm i));let z0:=(IntKind.i64=IntKind.i64);let z3:=(A z0/\A ((↑g.n:Int)=(↑g.n:Int)));True/\True/\True/\True/\(∃ g_1:Nat,A ((ssI g).pre g_1)/\(z1/\A (g.s=g.s)/\z3/\(A z0/\A ((0:Int)=(↑g_1:Int)))/\True)/\True)/\∀ g_1:Nat,let z2:=(↑g_1:Int); (ssI g).pre g_1->True/\Br (decide (z2<(↑g.n:Int))) (True/\True/\True/\True/\True/\A ((0:Int)<=z2/\z2<(↑g.n:Int))/\True/\True/\Br (g.s.toList==(g.nm z2.toNat).toList) (True/\True/\True/\A z0/\A (z2=ssX g.nm g.s g.n (0:Nat))) (A ((-9223372036854775808:Int)<=z2+(1:Int)/\z2+(1:Int)<=(9223372036854775807:Int))/\True/\∃ (g':Nat),A ((ssI g).pre g')/\((z1/\A (g.s=g.s)/\z3/\(A z0/\A (z2+(1:Int)=(↑g':Int)))/\True)/\True)/\A ((ssI g).meas g'<(ssI g).meas g_1))) (True/\True/\A z0/\A ((-1:Int)=ssX g.nm g.s g.n (0:Nat)))) (by kernel_rfl) ?_;simp only [cln];simp only [lw];refine ⟨⟨0,⟨lm _,rfl⟩,rfl⟩,fun q hq=>?_⟩;obtain ⟨q1,q2⟩:q<=g.n/\ssX g.nm g.s g.n 0=ssX g.nm g.s (g.n-q) q:=hq;refine ⟨fun hlt=>?_,fun hge=>?_⟩
 ·have hlt:q<g.n:=by omega
  rw [bD8 hlt] at q2;exact ⟨by omega,fun h=>by rw [q2,lg (show sEq g.s (g.nm q)=true from h)],fun h=>⟨by omega,q+1,⟨hlt,by rw [q2,lb (by unfold sEq; rw [h]; exact xW)]⟩,by simp,(show g.n-(q+1)<g.n-q by omega)⟩⟩
 ·have:q=g.n:=by omega
  rw [this,xB] at q2;exact q2.symm
def bL9:FSpec:=aa3 19 (γ:=SsG) ssD (fun g=>[ssS g,.str g.s]) (fun g=>g.n<=1000) (fun g=> .bool (decide (0<=ssX g.nm g.s g.n 0)))
theorem bT5:aa2 Tryz.prog bL9:=by
 refine ssW (specs:=[bL3]) (⟨bS9,trivial⟩) Tryz.func19 (fun g=>A0) ?_;rintro g hg;refine ab2 (B:=let A:=Sx.Ask;True/\True/\True/\(((A (g.n=g.n)/\∀ i:Nat,i<g.n->True/\A (g.nm i=g.nm i))/\A (g.s=g.s)/\True)/\A (g.n<=(1000:Nat)))/\True/\True/\True/\A (decide ((0:Int)<=ssX (fun (i:Nat)=>Lsg.strOf (SV.str (g.nm i))) g.s g.n (0:Nat))=decide ((0:Int)<=ssX g.nm g.s g.n (0:Nat)))) (by kernel_rfl) ?_;simp only [cln];exact ⟨hg,rfl⟩
end Lst
set_option linter.unusedSimpArgs false
set_option linter.unusedVariables false
namespace Lch
open Go.RowKit Sx Num Aff Afi Img Imh Rga Blend Ble Lsg Lta Lrd Lri Luc Lck Lgr Lcs Lst
set_option maxRecDepth 100000
theorem td {p:Prop} [Decidable p]:(true=decide p)=p:=by by_cases h:p<;>simp [h]
theorem bd {b:Bool}{p:Prop} [Decidable p]:(b=decide p)=(b=true<->p):=by by_cases h:p<;>cases b<;>simp [h]
theorem nd {p q:Prop} [Decidable p] [Decidable q]:((!decide p)=decide q)=(¬ p<->q):=by by_cases h:p<;>by_cases k:q<;>simp [h,k]
structure CiG where
 x:It
 n:Nat
 o:Int
def ak7 (x:It):Prop:=if x.kind=0 then x.iso=true\/x.knock=true else if x.kind=1 then x.nr≠0\/x.over=true\/¬ isNS x.src
 else x.nr≠0\/x.over=true\/¬ isNS x.src\/x.iso=true\/x.knock=true\/x.alpha≠0\/x.blend≠0
instance (x:It):Decidable (ak7 x):=by unfold ak7; infer_instance
def ciE (x:It) (n:Nat) (o:Int):Int:=
 if x.kind≠0/\x.kind≠1/\x.kind≠2 then 14
 else if ak7 x then 4
 else if x.kind=2/\o=0 then 18
 else if x.kind=1/\16<=o then 15
 else if x.blend<0\/12<=x.blend\/(x.kind=1/\x.iso=false/\x.blend≠0) then 1
 else if x.kind≠0 then 0
 else if aj0 ⟨x.nr,x.runs⟩≠0 then aj0 ⟨x.nr,x.runs⟩ else csE x.src n
def ciC (g:CiG):Inv:=⟨Unit,fun _=>g.x.kind=0\/g.x.kind=1\/g.x.kind=2,fun _=>⟨[(1,.int .i64 g.n),(2,.int .i64 g.o),(3,.own 0 0),(7,.bool (decide (ak7 g.x)))],[.cells 34 (lst (itL g.x)) 50]⟩,fun _=>0⟩
def ciT (g:CiG):St:=⟨[(1,.int .i64 g.n),(2,.int .i64 g.o),(3,.own 0 0)],[.cells 34 (lst (itL g.x)) 50]⟩
def ciQ (g:CiG):Prop:=(g.x.kind=0\/g.x.kind=1\/g.x.kind=2)/\¬ ak7 g.x/\¬ (g.x.kind=2/\g.o=0)/\¬ (g.x.kind=1/\16<=g.o)
def ciC3 (g:CiG):Inv:=⟨Unit,fun _=>ciQ g/\g.x.kind=0/\0<=g.x.blend/\g.x.blend<12,fun _=>ciT g,fun _=>0⟩
def bL1:FSpec:=aa3 20 (γ:=CiG) (fun | [.agg _ g,.int _ n,.int _ o]=>some ⟨itD g,n.toNat,o⟩ | _=>none) (fun g=>[.agg 34 (lst (itL g.x)),.int .i64 g.n,.int .i64 g.o]) (fun g=>g.n<=8/\g.x.nr<=9223372036854775807) (fun g=> .int .i64 (ciE g.x g.n g.o))
theorem bS7:aa2 Tryz.prog bL1:=by
 refine ssW (specs:=[bs6,bs3,bL8]) (⟨bG1,bF7,bT4,trivial⟩) Tryz.func20 (fun g=>(⟨[(10,.cut (ciC g)),(20,.cut (ciC3 g))],[]⟩:Ann)) ?_;rintro ⟨x,n,o⟩ ⟨hn,hr⟩;refine ab2 (B:=let T2:=fun p:Prop=>True/\True/\p;let T3:=fun p:Prop=>True/\True/\True/\p;let T4:=fun p:Prop=>True/\True/\True/\True/\p;let T5:=fun p:Prop=>True/\True/\True/\True/\True/\p;let T6:=fun p:Prop=>True/\True/\True/\True/\True/\True/\p;let K:=Br;let A:=Sx.Ask;let z18:=((1:Int)=ciE x n o);let z17:=(((qS True x.src x.src)/\True)/\A True);let z16:=(0:Int);let z19:=(decide (x.kind≠z16));let z14:=(decide (x.kind=(1:Int)));let z13:=((0:Nat)=(0:Nat));let z8:=(qT True x x);let z5:=(ciC (CiG.mk x n o));let z2:=(IntKind.i64=IntKind.i64);let q2:=fun p:Int=>A z2/\A (p=p);let z12:=(T6 (A z2/\A z18));let z11:=(q2 o);let z10:=(T2 (A z2/\A (z16=ciE x n o)));let z6:=(q2 ((↑n:Int)));let z3:=(∃ g:Unit,A ((ciC3 (CiG.mk x n o)).pre g)/\(z6/\z11/\A z13/\True)/\z8/\True);let z1:=(z6/\z11/\A z13/\A (true=decide (ak7 x))/\True);let z15:=(T4 (∃ g:Unit,A (z5.pre g)/\z1/\z8/\True));let z9:=(T2 (∃ g:Unit,A (z5.pre g)/\z1/\z8/\True));let z0:=(T5 (K (decide ((12:Int)<=x.blend)) (T4 (A z2/\A z18)) (T4 (K z14 (T5 (K (!x.iso) (T6 (K (decide (x.blend≠z16)) (T2 (A z2/\A z18)) (T4 (K z19 z10 z3)))) (T6 (True/\K z19 z10 z3)))) (T6 (T3 (K z19 z10 z3)))))));let z7:=(T6 (K (decide (x.blend<z16)) z12 z0));let z4:=(T4 (K (decide ((16:Int)<=o)) (T2 (A z2/\A ((15:Int)=ciE x n o))) (T4 (K (decide (x.blend<z16)) z12 z0))));T3 ((T4 (K (decide (x.kind=z16)) (T3 (K x.iso z9 (T4 (∃ g:Unit,A (z5.pre g)/\(z6/\z11/\A z13/\A (x.knock=decide (ak7 x))/\True)/\z8/\True)))) (T2 (K z14 (T5 (K (decide (z16<(↑x.nr:Int))) z15 (T4 (K x.over z9 (T2 (z17/\T3 (∃ g:Unit,A (z5.pre g)/\(z6/\z11/\A z13/\A ((!decide (isNS x.src))=decide (ak7 x))/\True)/\z8/\True))))))) (T2 (K (decide (x.kind=(2:Int))) (T5 (K (decide (z16<(↑x.nr:Int))) (T6 (T6 (∃ g:Unit,A (z5.pre g)/\z1/\z8/\True))) (T4 (K x.over (T6 (T4 (∃ g:Unit,A (z5.pre g)/\z1/\z8/\True))) (T2 (z17/\T3 (K (!decide (isNS x.src)) (T6 (T2 (∃ g:Unit,A (z5.pre g)/\z1/\z8/\True))) (T4 (K x.iso (T6 (∃ g:Unit,A (z5.pre g)/\z1/\z8/\True)) (T4 (K x.knock z15 (T5 (K (decide (x.alpha≠z16)) z9 (T5 (∃ g:Unit,A (z5.pre g)/\(z6/\z11/\A z13/\A (decide (x.blend≠z16)=decide (ak7 x))/\True)/\z8/\True))))))))))))))) (T2 (A z2/\A ((14:Int)=ciE x n o)))))))))/\∀ g:Unit,z5.pre g->((T2 (K (decide (ak7 x)) (T2 (A z2/\A ((4:Int)=ciE x n o))) (T4 (K (decide (x.kind=(2:Int))) (T4 (K (decide (o=z16)) (T2 (A z2/\A ((18:Int)=ciE x n o))) (T4 (K z14 z4 z7)))) (T6 (K z14 z4 z7))))))/\∀ g:Unit,(ciC3 (CiG.mk x n o)).pre g->T2 ((((A (x.nr=x.nr)/\∀ i:Nat,i<x.nr->(((True/\q2 ((x.runs i).y))/\q2 ((x.runs i).x0))/\q2 ((x.runs i).x1)))/\True)/\A (x.nr<=(9223372036854775807:Nat)))/\T3 (K (decide (aj0 (Rg.mk x.nr x.runs)≠z16)) (T3 (A z2/\A (aj0 (Rg.mk x.nr x.runs)=ciE x n o))) (T3 ((((qS True x.src x.src)/\(A z2/\A ((↑n:Int)=(↑(↑n:Int).toNat:Int)))/\True)/\A ((↑n:Int).toNat<=(8:Nat)))/\T2 (A z2/\A (csE x.src (↑n:Int).toNat=ciE x n o))))))))) (by kernel_rfl) ?_;delta qG qI qM qS qT
 simp only [cln];have hn:n<=8:=hn;have hr:x.nr<=9223372036854775807:=hr;simp only [lw,hn,hr,xD,xC,ua,ur,lA,lI];have c1:∀ P,(∃ g:Unit,(ciC ⟨x,n,o⟩).pre g/\P)<->((x.kind=0\/x.kind=1\/x.kind=2)/\P):=fun P=>⟨fun ⟨_,h⟩=>h,fun h=>⟨(),h⟩⟩
 have c2:∀ P:Prop,(∀ g:Unit,(ciC ⟨x,n,o⟩).pre g->P)<->((x.kind=0\/x.kind=1\/x.kind=2)->P):=fun P=>⟨fun h=>h (),fun h _=>h⟩
 have c3:(∃ g:Unit,(ciC3 ⟨x,n,o⟩).pre g)<->(((x.kind=0\/x.kind=1\/x.kind=2)/\¬ ak7 x/\¬ (x.kind=2/\o=0)/\¬ (x.kind=1/\16<=o))/\x.kind=0/\0<=x.blend/\x.blend<12):=⟨fun ⟨_,h⟩=>h,fun h=>⟨(),h⟩⟩
 have c4:∀ P:Prop,(∀ g:Unit,(ciC3 ⟨x,n,o⟩).pre g->P)<->((((x.kind=0\/x.kind=1\/x.kind=2)/\¬ ak7 x/\¬ (x.kind=2/\o=0)/\¬ (x.kind=1/\16<=o))/\x.kind=0/\0<=x.blend/\x.blend<12)->P):=fun P=>⟨fun h=>h (),fun h _=>h⟩
 have c5:0<(x.nr:Int)<->x.nr≠0:=by omega
 simp only [c1,c2,c3,c4,c5,td,bd,nd,xV,lA,ua,lI,true_iff];have b0:x.kind=0->(ak7 x<->(x.iso=true\/x.knock=true)):=fun h=>by unfold ak7; rw [lg h]
 have b1:x.kind=1->(ak7 x<->(x.nr≠0\/x.over=true\/¬ isNS x.src)):=fun h=>by unfold ak7; rw [lb (by omega),lg h]
 have b2:x.kind=2->(ak7 x<->(x.nr≠0\/x.over=true\/¬ isNS x.src\/x.iso=true\/x.knock=true\/x.alpha≠0\/x.blend≠0)):=fun h=>by unfold ak7; rw [lb (by omega),lb (by omega)]
 have e14:¬ (x.kind=0\/x.kind=1\/x.kind=2)->ciE x n o=14:=fun h=>by unfold ciE; rw [lg (by omega)]
 have e4:(x.kind=0\/x.kind=1\/x.kind=2)->ak7 x->ciE x n o=4:=fun h hb=>by unfold ciE; rw [lb (by omega),lg hb]
 have e18:¬ ak7 x->x.kind=2/\o=0->ciE x n o=18:=fun hb h=>by unfold ciE; rw [lb (by omega),lb hb,lg h]
 have e15:¬ ak7 x->x.kind=1/\16<=o->ciE x n o=15:=fun hb h=>by unfold ciE; rw [lb (by omega),lb hb,lb (by omega),lg h]
 have er:(x.kind=0\/x.kind=1\/x.kind=2)->¬ ak7 x->¬ (x.kind=2/\o=0)->¬ (x.kind=1/\16<=o)->ciE x n o=if x.blend<0\/12<=x.blend\/(x.kind=1/\x.iso=false/\x.blend≠0) then 1 else if x.kind≠0 then 0 else if aj0 ⟨x.nr,x.runs⟩≠0 then aj0 ⟨x.nr,x.runs⟩ else csE x.src n:=fun hk hb h1 h2=>by
  unfold ciE; rw [lb (by omega),lb hb,lb h1,lb h2]
 generalize ciE x n o=G at *
 generalize aj0 ⟨x.nr,x.runs⟩=C at *
 generalize csE x.src n=D at *
 generalize isNS x.src=I at *
 generalize ak7 x=B at *
 clear c1 c2 c3 c4 c5;refine ⟨⟨?_,?_⟩,?_⟩
 ·clear e14 e4 e18 e15 er b1 b2;grind
 ·clear e4 e18 e15 er b0;repeat' (first | refine And.intro ?_ ?_ | intro _)
  all_goals grind
 ·clear b0 b1 b2 e14;intro hk;have e4:=e4 hk;have er:=er hk;repeat' (first | refine And.intro ?_ ?_ | intro _)
  all_goals grind
end Lch
set_option linter.unusedSimpArgs false
set_option linter.unusedVariables false
namespace Lcl
open Go.RowKit Sx Num Aff Afi Img Imh Rga Blend Ble Lsg Lta Lrd Lri Luc Lck Lgr Lcs Lst Lch
set_option maxRecDepth 100000
def opI (L:LsG):Nat->Int
 | 0=>0
 | i+1=>if (L.it i).kind=1 then opI L i+1 else if (L.it i).kind=2 then opI L i-1 else opI L i
def itE (L:LsG) (i:Nat):Int:=ciE (L.it i) L.ni (opI L i)
def nmE (L:LsG) (i:Nat):Int:=if ¬ isNm (L.nm i) then 6 else if 0<=ssX L.nm (L.nm i) i 0 then 7 else 0
def chkL (L:LsG):Int:=
 if L.w<1\/256<L.w\/L.h<1\/256<L.h then 3
 else if L.ni<1\/8<L.ni then 2
 else if fstE (nmE L) L.ni 0≠0 then fstE (nmE L) L.ni 0
 else if 5000<L.n then 2
 else if fstE (itE L) L.n 0≠0 then fstE (itE L) L.n 0
 else if 0<opI L L.n then 18 else 0
theorem ops (L:LsG):∀ i:Nat,-(i:Int)<=opI L i/\opI L i<=(i:Int)
 | 0=>by simp [opI]
 | i+1=>by
  have:=ops L i
  unfold opI;split
  ·omega
  ·split<;>omega
def nmS (L:LsG):SV:= .sl L.ni 1 (fun i _=> .str (L.nm i))
def clI1 (L:LsG):Inv:=⟨Nat,fun i=>i<=L.ni/\fstE (nmE L) L.ni 0=fstE (nmE L) (L.ni-i) i,fun i=>⟨[(1,.own 0 0),(38,nmS L),(39,.int .i64 L.ni),(40,.int .i64 i)],[lsO L]⟩,fun i=>L.ni-i⟩
def clI2 (L:LsG):Inv:=⟨Nat,fun i=>i<=L.n/\fstE (itE L) L.n 0=fstE (itE L) (L.n-i) i,fun i=>⟨[(1,.own 0 0),(5,.int .i64 (opI L i)),(60,.sl L.n 34 (fun i=>lst (itL (L.it i)))),(61,.int .i64 L.n),(62,.int .i64 i)],[lsO L]⟩,fun i=>L.n-i⟩
def be7:FSpec:=aa3 7 (γ:=LsG) (fun | [.agg _ g]=>some (lsD g) | _=>none) (fun g=>[lsS g]) (fun g=>∀ i,i<g.n->(g.it i).nr<=9223372036854775807) (fun g=> .int .i64 (chkL g))
set_option maxHeartbeats 1000000 in
theorem a95:aa2 Tryz.prog be7:=by
 refine ssW (specs:=[bK9,bL9,bL1]) (⟨bS5,bT5,bS7,trivial⟩) Tryz.func7 (fun g=>(⟨[(6,.inv (clI1 g)),(17,.inv (clI2 g))],[]⟩:Ann)) ?_;rintro L hL;refine ab2 (B:=let T3:=fun p:Prop=>True/\True/\True/\p;let T4:=fun p:Prop=>True/\True/\True/\True/\p;let T5:=fun p:Prop=>True/\True/\True/\True/\True/\p;let J:=Int.ofNat;let K:=Br;let A:=Sx.Ask;let z19:=(↑L.n:Int);let z18:=(0:Nat);let z17:=(0:Int);let z15:=((3:Int)=chkL L);let z12:=(9223372036854775807:Int);let z11:=(-9223372036854775808:Int);let z10:=(A (L.ni=L.ni)/\∀ i:Nat,i<L.ni->True/\A (L.nm i=L.nm i));let z9:=(1:Int);let z8:=(z18=z18);let z6:=(↑L.ni:Int);let z2:=(A (L.n=L.n)/\∀ i:Nat,i<L.n->(qT True (L.it i) (L.it i)));let z1:=(IntKind.i64=IntKind.i64);let q1:=fun p:Int=>A z1/\A (p=p);let z14:=(True/\True/\A z1/\A ((2:Int)=chkL L));let z4:=(q1 z19);let z0:=((((True/\q1 L.w)/\q1 L.h)/\A (L.ni=L.ni)/\∀ i:Nat,i<L.ni->True/\A (L.nm i=L.nm i))/\A (L.n=L.n)/\∀ i:Nat,i<L.n->(qT True (L.it i) (L.it i)));T5 (True/\K (decide (L.w<z9)) (T5 (True/\True/\A z1/\A z15)) (T5 (K (decide ((256:Int)<L.w)) (T5 (A z1/\A z15)) (T5 (K (decide (L.h<z9)) (T3 (A z1/\A z15)) (T4 (K (decide ((256:Int)<L.h)) (True/\True/\A z1/\A z15) (T5 (K (decide (z6<z9)) (T3 (A z1/\A ((2:Int)=chkL L))) (T5 (K (decide ((8:Int)<z6)) z14 (T4 ((∃ g:Nat,A ((clI1 L).pre g)/\(A z8/\z10/\(q1 z6)/\(A z1/\A (z17=(↑g:Int)))/\True)/\z0/\True)/\∀ g:Nat,let z13:=(↑g:Int);let z5:=(J g-J z18); (clI1 L).pre g->True/\K (decide (z13<z6)) (True/\A (z17<=z13/\z13<z6)/\T4 (((A (L.nm z13.toNat=L.nm z13.toNat)/\True)/\A True)/\True/\K (!decide (isNm (L.nm z13.toNat))) (True/\True/\A z1/\A ((6:Int)=chkL L)) (T3 (A (z17<=J z18/\J z18<=J g/\J g<=J L.ni/\J L.ni<=z6)/\True/\(((A (z5.toNat=z5.toNat)/\∀ i:Nat,i<z5.toNat->True/\A (L.nm ((J z18).toNat+i)=Lsg.strOf (SV.str (L.nm ((J z18).toNat+i)))))/\A (L.nm z13.toNat=L.nm z13.toNat)/\True)/\A (z5.toNat<=(1000:Nat)))/\K (decide (z17<=ssX (fun (i:Nat)=>Lsg.strOf (SV.str (L.nm ((J z18).toNat+i)))) (L.nm z13.toNat) z5.toNat z18)) (True/\True/\A z1/\A ((7:Int)=chkL L)) (A (z11<=z13+z9/\z13+z9<=z12)/\True/\∃ (g':Nat),A ((clI1 L).pre g')/\((A z8/\z10/\(q1 z6)/\(A z1/\A (z13+z9=(↑g':Int)))/\True)/\z0/\True)/\A ((clI1 L).meas g'<(clI1 L).meas g)))))) (T4 (K (decide ((5000:Int)<z19)) z14 (T5 ((∃ g:Nat,A ((clI2 L).pre g)/\(A z8/\(A z1/\A (z17=opI L g))/\z2/\z4/\(A z1/\A (z17=(↑g:Int)))/\True)/\z0/\True)/\∀ g:Nat,let z16:=(↑g:Int);let z7:=(L.it z16.toNat);let z3:=(z11<=z16+z9/\z16+z9<=z12); (clI2 L).pre g->True/\K (decide (z16<z19)) (A (z17<=z16/\z16<z19)/\T5 (T3 ((((qT True z7 z7)/\(A z1/\A (z6=(↑z6.toNat:Int)))/\(q1 (opI L g))/\True)/\A (z6.toNat<=(8:Nat)/\z7.nr<=(9223372036854775807:Nat)))/\T3 (K (decide (ciE z7 z6.toNat (opI L g)≠z17)) (T3 (A z1/\A (ciE z7 z6.toNat (opI L g)=chkL L))) (T4 (K (decide (z7.kind=z9)) (True/\A (z11<=opI L g+z9/\opI L g+z9<=z12)/\True/\A z3/\True/\∃ (g':Nat),A ((clI2 L).pre g')/\((A z8/\(A z1/\A (opI L g+z9=opI L g'))/\z2/\z4/\(A z1/\A (z16+z9=(↑g':Int)))/\True)/\z0/\True)/\A ((clI2 L).meas g'<(clI2 L).meas g)) (True/\True/\K (decide (z7.kind=(2:Int))) (True/\A (z11<=opI L g-z9/\opI L g-z9<=z12)/\True/\A z3/\True/\∃ (g':Nat),A ((clI2 L).pre g')/\((A z8/\(A z1/\A (opI L g-z9=opI L g'))/\z2/\z4/\(A z1/\A (z16+z9=(↑g':Int)))/\True)/\z0/\True)/\A ((clI2 L).meas g'<(clI2 L).meas g)) (A z3/\True/\∃ (g':Nat),A ((clI2 L).pre g')/\((A z8/\(A z1/\A (opI L g=opI L g'))/\z2/\z4/\(A z1/\A (z16+z9=(↑g':Int)))/\True)/\z0/\True)/\A ((clI2 L).meas g'<(clI2 L).meas g))))))))) (True/\True/\K (decide (z17<opI L g)) (True/\True/\A z1/\A ((18:Int)=chkL L)) (True/\True/\A z1/\A (z17=chkL L))))))))))))))))))))) (by kernel_rfl) ?_;delta qG qI qM qS qT
 simp only [cln];have enm:(fun i=>strOf (SV.str (L.nm ((Int.ofNat 0).toNat+i))))=L.nm:=funext fun i=>by
  show L.nm (0+i)=_;rw [lu]
 simp only [enm,lw];have e1:(L.w<1\/256<L.w\/L.h<1\/256<L.h)->3=chkL L:=fun h=>by unfold chkL; rw [lg h]
 refine ⟨fun h=>e1 (.inl h),fun c1=>⟨fun h=>e1 (.inr (.inl h)),fun c2=>⟨fun h=>e1 (.inr (.inr (.inl h))),fun c3=>⟨fun h=>e1 (.inr (.inr (.inr h))),fun c4=>?_⟩⟩⟩⟩;have d1:¬ (L.w<1\/256<L.w\/L.h<1\/256<L.h):=by omega
 have e2:(L.ni<1\/8<L.ni)->2=chkL L:=fun h=>by unfold chkL; rw [lb d1,lg h]
 refine ⟨fun h=>e2 (by omega),fun c5=>⟨fun h=>e2 (by omega),fun c6=>⟨⟨0,⟨lm _,rfl⟩,rfl⟩,fun q hq=>?_⟩⟩⟩;have d2:¬ (L.ni<1\/8<L.ni):=by omega
 have e3:fstE (nmE L) L.ni 0≠0->fstE (nmE L) L.ni 0=chkL L:=fun h=>by unfold chkL; rw [lb d1,lb d2,lg h]
 obtain ⟨q1,q2⟩:q<=L.ni/\fstE (nmE L) L.ni 0=fstE (nmE L) (L.ni-q) q:=hq;refine ⟨fun hlt=>?_,fun hge=>?_⟩
 ·have hlt:q<L.ni:=by omega
  rw [ay1 hlt] at q2;have bad:∀ v:Int,nmE L q=v->v≠0->v=chkL L:=fun v h hv=>by
   have:fstE (nmE L) L.ni 0=v:=by rw [q2,lb (by rw [h]; exact hv),h]
   rw [<-e3 (by rw [this]; exact hv),this]
  have e4:(Int.ofNat q-Int.ofNat 0).toNat=q:=by simp
  rw [e4];have ha:((q:Int)=q):=rfl;refine ⟨by omega,fun h=>bad 6 (lg (by simpa using h)) (by decide),fun h=>⟨⟨xN _,by simp,by simp; omega,by simp⟩,⟨fun i _=>rfl,by omega⟩,fun h2=>bad 7 (by unfold nmE; rw [lb (by simpa using h),lg h2]) (by decide),fun h2=>⟨by omega,q+1,⟨hlt,?_⟩,by simp,(show L.ni-(q+1)<L.ni-q by omega)⟩⟩⟩;rw [q2,lg (by unfold nmE; rw [lb (by simpa using h),lb h2])]
 ·have:q=L.ni:=by omega
  rw [this,xB] at q2;have d3:¬ fstE (nmE L) L.ni 0≠0:=fun h=>h q2
  have e5:5000<L.n->2=chkL L:=fun h=>by unfold chkL; rw [lb d1,lb d2,lb d3,lg h]
  refine ⟨fun h=>e5 (by omega),fun c7=>⟨⟨0,⟨lm _,rfl⟩,rfl,rfl⟩,fun k hk=>?_⟩⟩;have d4:¬ 5000<L.n:=by omega
  have e6:chkL L=if fstE (itE L) L.n 0≠0 then fstE (itE L) L.n 0 else if 0<opI L L.n then 18 else 0:=by unfold chkL; rw [lb d1,lb d2,lb d3,lb d4]
  obtain ⟨k1,k2⟩:k<=L.n/\fstE (itE L) L.n 0=fstE (itE L) (L.n-k) k:=hk;refine ⟨fun hlt=>?_,fun hge=>?_⟩
  ·have hlt:k<L.n:=by omega
   rw [ay1 hlt] at k2;have ho:=ops L k;have st:itE L k=0->(clI2 L).pre (k+1):=fun h=>⟨hlt,by rw [k2,lg h]⟩
   have mm:(clI2 L).meas (k+1)<(clI2 L).meas k:=(show L.n-(k+1)<L.n-k by omega)
   have eo:opI L (k+1)=if (L.it k).kind=1 then opI L k+1 else if (L.it k).kind=2 then opI L k-1 else opI L k:=rfl
   refine ⟨by omega,⟨trivial,by omega,hL k hlt⟩,fun h=>?_,fun h=>⟨fun h1=>⟨by omega,by omega,k+1,st (xc.1 h),⟨by rw [eo,lg h1],by simp⟩,mm⟩,fun h1=>⟨fun h2=>⟨by omega,by omega,k+1,st (xc.1 h),⟨by rw [eo,lb h1,lg h2],by simp⟩,mm⟩,fun h2=>⟨by omega,k+1,st (xc.1 h),⟨by rw [eo,lb h1,lb h2],by simp⟩,mm⟩⟩⟩⟩;have h:¬ itE L k=0:=h;have:fstE (itE L) L.n 0=itE L k:=by rw [k2,lb h]
   rw [e6,this,lg h];rfl
  ·have:k=L.n:=by omega
   subst this;rw [xB] at k2;rw [e6,lb (fun h=>h k2)];exact ⟨fun h=>by rw [lg h],fun h=>by rw [lb h]⟩
end Lcl
end Go.Proofs.YthappngbapbkfaaGreat
namespace Go.Proofs
open Go.Shelf
def Tryz.ba6:Go.Shelf.Ren:=⟨fun | 125=>78 | 128=>105 | 129=>106 | n=>n,fun | 46=>143 | 3=>3 | 51=>184 | 53=>186 | 4=>4 | 5=>5 | 9=>9 | n=>n,fun | n=>n⟩
theorem Tryz.bV2:Go.Proofs.Lays.n125 Tryz.prog Tryz.ba6:={
  mixed:=by kernel_rfl
  f125:=Tryz.func78.trans (congrArg some (by kernel_rfl))
  f128:=Tryz.func105.trans (congrArg some (by kernel_rfl))
  f129:=Tryz.func106.trans (congrArg some (by kernel_rfl))
  t3:=Tryz.underlying3
  a3:=Tryz.isAgg3
  z3:=Tryz.sizeOf3
  v3:=Tryz.zeroValue3
  t4:=Tryz.underlying4
  a4:=Tryz.isAgg4
  z4:=Tryz.sizeOf4
  v4:=Tryz.zeroValue4
  t5:=Tryz.underlying5
  a5:=Tryz.isAgg5
  z5:=Tryz.sizeOf5
  v5:=Tryz.zeroValue5
  t9:=Tryz.underlying9
  a9:=Tryz.isAgg9
  z9:=Tryz.sizeOf9
  v9:=Tryz.zeroValue9
  t46:=Tryz.underlying143
  a46:=Tryz.isAgg143
  z46:=Tryz.sizeOf143
  v46:=Tryz.zeroValue143
  t51:=Tryz.underlying184
  a51:=Tryz.isAgg184
  z51:=Tryz.sizeOf184
  v51:=Tryz.zeroValue184
  t53:=Tryz.underlying186
  a53:=Tryz.isAgg186
  z53:=Tryz.sizeOf186
  v53:=Tryz.zeroValue186 }
theorem Tryz.bits_Len (x:Int) (w:World) (h0:0<=x) (h1:x<=18446744073709551615) :
  Calls Tryz.prog 78 #[.int .u64 x] w fun e w'=>e = .returned (.int .i64 (Lib.bitLen x.toNat))/\w'=w:=Any.bits_Len Tryz.bV2 x w h0 h1
end Go.Proofs
namespace Go.Proofs.YthappngbapbkfaaGreat
set_option linter.unusedSimpArgs false
set_option linter.unusedVariables false
namespace Num
open Go.RowKit
def isq:Nat->Nat
 | 0=>0
 | n+1=>if (isq n+1)*(isq n+1)<=n+1 then isq n+1 else isq n
theorem a81 {a b:Nat}(h:a<=b):a*a<=b*b:=ui h h
theorem a74 (a:Nat):(a+1)*(a+1)=a*a+2*a+1:=by rw [lK,Nat.mul_add]; omega
theorem aU1:∀ n,isq n*isq n<=n/\n<(isq n+1)*(isq n+1)
 | 0=>by decide
 | n+1=>by
  have ih:=aU1 n;unfold isq;have e1:=a74 (isq n);have e2:=a74 (isq n+1);split<;>omega
theorem bo0 {n r:Nat}(h1:r*r<=n) (h2:n<(r+1)*(r+1)):isq n=r:=by
 have hs:=aU1 n;rcases uy (isq n) r with h | h | h
 ·have:=a81 (show isq n+1<=r by omega); omega
 ·exact h
 ·have:=a81 (show r+1<=isq n by omega); omega
theorem b49 {n x:Nat}(hx:1<=x):n<((x+n / x) / 2+1)*((x+n / x) / 2+1):=by
 have h1:n<(n / x+1)*x:=by
  have:=Nat.lt_mul_div_succ n (show 0<x by omega)
  rw [Nat.mul_comm] at this; exact this
 generalize n / x=q at *
 have h2:x+q+1<=2*((x+q) / 2+1):=by omega
 generalize (x+q) / 2+1=y at *
 have h3:4*((q+1)*x)<=(x+q+1)*(x+q+1):=by
  rcases Nat.le_total x (q+1) with h | h
  ·obtain ⟨d,hd⟩:=Nat.exists_eq_add_of_le h;rw [hd,show x+q+1=2*x+d by omega]; grind
  ·obtain ⟨d,hd⟩:=Nat.exists_eq_add_of_le h;rw [show x+q+1=2*(q+1)+d by omega,hd]; grind
 have h4:=a81 h2;have h5:2*y*(2*y)=4*(y*y):=by grind
 omega
theorem bm7 {n x:Nat}(hx:1<=x) (h:n<(x+1)*(x+1)) (hy:x<=(x+n / x) / 2):isq n=x:=by
 refine bo0 ?_ h;have h1:x<=n / x:=by omega
 have h2:=Nat.div_mul_le_self n x;have h3:x*x<=n / x*x:=ll x h1;omega
theorem start (n L:Nat) (h:n<2 ^ L):n<(2 ^ ((L+1) / 2)+1)*(2 ^ ((L+1) / 2)+1):=by
 have h1:2 ^ L<=2 ^ ((L+1) / 2)*2 ^ ((L+1) / 2):=by
  rw [<-Nat.pow_add]; exact Nat.pow_le_pow_right (by omega) (by omega)
 have h2:=a74 (2 ^ ((L+1) / 2));omega
theorem by2 {n:Nat}(h:n<2):isq n=n:=by
 match n,h with
 | 0,_=>rfl
 | 1,_=>rfl
theorem sqrt (n:Nat) (w:World) (h:(n:Int)<=4611686018427387904) :
  Calls Tryz.prog 130 #[.int .i64 n] w fun e w'=>e = .returned (.int .i64 (isq n))/\w=w':=by
 by_cases h2:(n:Int)<2
 ·have H:Hid ((n:Int)=(isq n:Nat)):=by show _=_; rw [by2 (by omega)]
  go_enter Tryz.func130,Tryz.ntmps130
  go_wp2
  go_ret
  exact ⟨ag1 H.out,rfl⟩
 ·have hb:=Go.Lib.bitLenAux_bounds 64 n (by omega) (by omega);have hL:Lib.bitLen n<=63:=Lib.bitLen_le n 63 (by omega) (by omega);obtain ⟨L,hLe⟩:∃ L,L=Lib.bitLen n:=⟨_,rfl⟩
  have hb3:n<2 ^ L:=by rw [hLe]; exact hb.2.2
  have hL1:1<=L:=by rw [hLe]; exact hb.1
  rw [<-hLe] at hL;have hs:=start n L hb3;have hp1:1<=2 ^ ((L+1) / 2):=Nat.one_le_two_pow;have hp2:2 ^ ((L+1) / 2)<=2 ^ 32:=Nat.pow_le_pow_right (by omega) (by omega);have HS:=Lib.hid hs;have HL:=Lib.hid hLe;clear hs hLe hb hb3;go_enter Tryz.func130,Tryz.ntmps130
  go_wp2_with fail
  refine (Tryz.bits_Len n _ (by omega) (by omega)).mono ?_;rintro e w' ⟨rfl,rfl⟩;rw [lw,<-HL.out];go_wp2_with fail
  obtain ⟨x0,hx0⟩:∃ x:Nat,x=2 ^ ((L+1) / 2):=⟨_,rfl⟩
  have HS2:Hid (n<(x0+1)*(x0+1)):=by rw [hx0]; exact HS.out
  rw [<-hx0] at hp1 hp2;have e:wrap64 ((2:Int) ^ ((L+1) / 2))=(x0:Int):=by
   have e2:(2:Int) ^ ((L+1) / 2)=(x0:Int):=by rw [hx0]; norm_cast
   rw [e2]; exact IntWalk.wrap64_in _ (by omega)
  rw [e];clear e hx0 HS HL;go_loop [3,4] (fun x y=>∃ k:Nat,x = .int .i64 k/\1<=k/\k<=4294967296/\Hid (n<(k+1)*(k+1))) (fun x _=>(intOf x).toNat)
  case atStart=>exact ⟨x0,rfl,hp1,by omega,HS2⟩
  case round=>
   obtain ⟨k,rfl,h3,h4,HK⟩:=hrel;have hq:((n / k:Nat):Int)=(n:Int) / (k:Int):=by norm_cast
   have hq1:n / k<=n:=Nat.div_le_self n k;have HN:Hid (n<((k+n / k) / 2+1)*((k+n / k) / 2+1)):=b49 h3;have HE:k<=(k+n / k) / 2->Hid ((k:Int)=(isq n:Nat)):=fun hh=>by show _=_; rw [bm7 h3 HK.out hh]
   have hq2:2<=k+n / k:=by
    by_cases e1:k=1
    ·rw [e1,Nat.div_one]; omega
    ·exact xh (show 2<=k by omega) (Nat.le_add_right k _)
   generalize n / k=q at *
   by_cases hge:k<=(k+q) / 2
   ·have HE2:=HE hge;clear HE HN;go_wp2
    go_ret
    exact ⟨ag1 HE2.out,rfl⟩
   ·clear HE;go_wp2
    go_round
    case rel=>exact ⟨(k+q) / 2,by go_num,by omega,by omega,HN⟩
    case measure=>simp [intOf]; omega
end Num
set_option linter.unusedSimpArgs false
set_option linter.unusedVariables false
namespace Lgp
open Go.RowKit Sx Num Aff Afi Img Imh Rga Blend Ble Lsg Lta Lrd Lri Luc Lck Lgr Lcs Lst Lch Lcl
set_option maxRecDepth 100000
def bK2:FSpec:=aa3 130 (γ:=Int) (fun | [.int _ x]=>some x | _=>none) (fun x=>[.int .i64 x]) (fun x=>0<=x/\x<=4611686018427387904) (fun x=> .int .i64 (isq x.toNat))
theorem bR7:aa2 Tryz.prog bK2:=by
 refine aX9 (fun _ _=>by kernel_rfl) ?_;rintro x ⟨x0,x1⟩ vals w X hsz hr hX;have r0:=hr 0 (by simp);simp only [xr] at r0;generalize e0:vals.getD 0 undef=v0 at r0;cases r0;obtain ⟨n,rfl⟩:=Int.eq_ofNat_of_zero_le x0;have hvals:vals = #[.int .i64 n]:=by
  obtain ⟨l⟩:=vals;match l,hsz with
  | [x],_=>simp at e0; rw [e0]
 rw [hvals];refine (sqrt n w x1).mono ?_;rintro e w' ⟨rfl,rfl⟩;exact ⟨_,rfl,.int,Below.refl _ _⟩
def u8i (k:Ink):Prop:=((0<=k.c0/\k.c0<=255)/\(0<=k.c1/\k.c1<=255)/\(0<=k.c2/\k.c2<=255)/\0<=k.c3/\k.c3<=255)/\(0<=k.c4/\k.c4<=255)/\(0<=k.c5/\k.c5<=255)/\(0<=k.c6/\k.c6<=255)/\0<=k.c7/\k.c7<=255
structure RmG where
 n:Nat
 st:Nat->Stp
 t:Int
structure RmG.ok (g:RmG):Prop where
 n0:1<=g.n
 n1:g.n<=16
 pos:∀ i,i<g.n->0<=(g.st i).pos/\(g.st i).pos<=65536
 ink:∀ i,i<g.n->u8i (g.st i).ink
 t0:0<=g.t
 t1:g.t<=65536
def kR (f:Nat->Stp) (t:Int):Nat->Int
 | 0=> -1
 | m+1=>if t<(f m).pos then kR f t m else m
theorem b57 (f:Nat->Stp) (t:Int):∀ m:Nat,-1<=kR f t m/\kR f t m<m
 | 0=>by simp [kR]
 | m+1=>by
  have:=b57 f t m
  unfold kR;split<;>omega
theorem b58 (f:Nat->Stp) (t:Int):∀ m j:Nat,kR f t m<j->j<m->t<(f j).pos
 | 0,j,_,h=>absurd h (lj _)
 | m+1,j,h,h2=>by
  unfold kR at h;split at h
  ·rename_i hc;by_cases e:j=m
   ·subst e; exact hc
   ·exact b58 f t m j h (by omega)
  ·omega
def RmG.k (g:RmG):Int:=kR g.st g.t g.n
def RmG.a (g:RmG):Stp:=g.st g.k.toNat
def RmG.b (g:RmG):Stp:=g.st (g.k+1).toNat
def RmG.mx (g:RmG) (f:Ink->Int):Int:=IntKind.u8.wrap (nr (f g.a.ink*(g.b.pos-g.t)+f g.b.ink*(g.t-g.a.pos)) (g.b.pos-g.a.pos))
def RmG.res (g:RmG):Ink:=if g.k<0 then (g.st 0).ink else if g.k+1=g.n\/g.a.pos=g.t then g.a.ink
 else ⟨g.mx Ink.c0,g.mx Ink.c1,g.mx Ink.c2,g.mx Ink.c3,g.mx Ink.c4,g.mx Ink.c5,g.mx Ink.c6,g.mx Ink.c7⟩
def rmI (g:RmG):Inv:=⟨Nat,fun m=>m<=g.n/\g.k=kR g.st g.t m,fun m=>⟨[(0,.sl g.n 9 (fun i=>lst (stpL (g.st i)))),(1,.int .i64 g.t),(4,.own 0 0),(5,.int .i64 ((m:Int)-1))],[.cells 8 (fun _=> .any) 28]⟩,fun m=>m⟩
def bK6:FSpec:=aa3 109 (γ:=RmG) (fun | [s,.int _ t]=>some ⟨ai9 s,stpD s,t⟩ | _=>none) (fun g=>[.sl g.n 9 (fun i=>lst (stpL (g.st i))),.int .i64 g.t]) RmG.ok (fun g=> .agg 8 (lst (inkL g.res)))
set_option maxHeartbeats 1000000 in
theorem bS2:aa2 Tryz.prog bK6:=by
 refine ssW (specs:=[aH8]) (⟨aA9,trivial⟩) Tryz.func109 (fun g=>(⟨[(2,.inv (rmI g)),(12,.rounds 9)],[]⟩:Ann)) ?_;rintro g hg;refine ab2 (B:=let T2:=fun p:Prop=>True/\True/\p;let T3:=fun p:Prop=>True/\True/\True/\p;let T4:=fun p:Prop=>True/\True/\True/\True/\p;let T7:=fun p:Prop=>True/\True/\True/\True/\True/\True/\True/\p;let K:=Br;let A:=Sx.Ask;let z35:=(True/\True);let z32:=(↑g.n:Int);let z30:=(((((((z35/\True)/\True)/\True)/\True)/\True)/\True)/\True);let z20:=(-4611686018427387904:Int);let z15:=(↑(8:Nat):Int);let z13:=(IntKind.i64=IntKind.i64);let q13:=fun p:Int=>A z13/\A (p=p);let z23:=(A (g.n=g.n)/\∀ i:Nat,i<g.n->(qI (True/\q13 ((g.st i).pos)) ((g.st i).ink) ((g.st i).ink)));let z12:=(4611686018427387904:Int);let z11:=(0:Int);let z33:=(z11<=z11/\z11<z15);let z25:=(g.st (Int.toNat z11));let z9:=(IntKind.u8=IntKind.u8);let z6:=(True/\A (z11<=z11/\z11<z32)/\T3 (z35/\(((((((True/\A z9/\A (z25.ink.c0=g.res.c0))/\A z9/\A (z25.ink.c1=g.res.c1))/\A z9/\A (z25.ink.c2=g.res.c2))/\A z9/\A (z25.ink.c3=g.res.c3))/\A z9/\A (z25.ink.c4=g.res.c4))/\A z9/\A (z25.ink.c5=g.res.c5))/\A z9/\A (z25.ink.c6=g.res.c6))/\A z9/\A (z25.ink.c7=g.res.c7)));let z5:=(1:Int);let z31:=(z11<=z11+z5/\z11+z5<z15);let z29:=(z11<=z11+z5+z5/\z11+z5+z5<z15);let z27:=(z11<=z11+z5+z5+z5/\z11+z5+z5+z5<z15);let z26:=(z11<=z11+z5+z5+z5+z5/\z11+z5+z5+z5+z5<z15);let z24:=(z11<=z11+z5+z5+z5+z5+z5/\z11+z5+z5+z5+z5+z5<z15);let z21:=(z11<=z11+z5+z5+z5+z5+z5+z5/\z11+z5+z5+z5+z5+z5+z5<z15);let z19:=(z11<=z11+z5+z5+z5+z5+z5+z5+z5/\z11+z5+z5+z5+z5+z5+z5+z5<z15);let z4:=(9223372036854775807:Int);let z3:=(-9223372036854775808:Int);T3 (A (z3<=z32-z5/\z32-z5<=z4)/\True/\(∃ g_1:Nat,A ((rmI g).pre g_1)/\(z23/\(q13 g.t)/\A ((0:Nat)=(0:Nat))/\(A z13/\A (z32-z5=(↑g_1:Int)-z5))/\True)/\z30/\True)/\∀ g_1:Nat,let z22:=(↑g_1:Int);let z34:=(z3<=z22-z5+z5/\z22-z5+z5<=z4);let z2:=(g.st (z22-z5).toNat);let z18:=(z3<=g.t-z2.pos/\g.t-z2.pos<=z4);let z14:=(((((((True/\A z9/\A (z2.ink.c0=g.res.c0))/\A z9/\A (z2.ink.c1=g.res.c1))/\A z9/\A (z2.ink.c2=g.res.c2))/\A z9/\A (z2.ink.c3=g.res.c3))/\A z9/\A (z2.ink.c4=g.res.c4))/\A z9/\A (z2.ink.c5=g.res.c5))/\A z9/\A (z2.ink.c6=g.res.c6));let z8:=(g.t-z2.pos);let z1:=(g.st (z22-z5+z5).toNat);let z28:=(z1.pos-z2.pos);let z17:=(z3<=z1.pos-g.t/\z1.pos-g.t<=z4);let z16:=(z3<=z1.pos-z2.pos/\z1.pos-z2.pos<=z4);let z10:=(q13 (z1.pos-z2.pos));let z7:=(z1.pos-g.t);let z0:=(T2 (A (z11<=z22-z5/\z22-z5<z32)/\T4 (A z34/\T4 (K (decide (z22-z5+z5=z32)) (T4 (z35/\z14/\A z9/\A (z2.ink.c7=g.res.c7))) (T4 (True/\K (decide (z2.pos=g.t)) (T3 (z35/\z14/\A z9/\A (z2.ink.c7=g.res.c7))) (T2 (A z34/\A (z11<=z22-z5+z5/\z22-z5+z5<z32)/\T7 (T4 (A z33/\True/\A (z3<=z2.ink.c0/\z2.ink.c0<=z4)/\T3 (A z17/\A (z3<=z2.ink.c0*z7/\z2.ink.c0*z7<=z4)/\T2 (A z33/\True/\A (z3<=z1.ink.c0/\z1.ink.c0<=z4)/\T3 (A z18/\A (z3<=z1.ink.c0*z8/\z1.ink.c0*z8<=z4)/\A (z3<=z2.ink.c0*z7+z1.ink.c0*z8/\z2.ink.c0*z7+z1.ink.c0*z8<=z4)/\T4 (A z16/\(((q13 (z2.ink.c0*z7+z1.ink.c0*z8))/\z10/\True)/\A ((z20<=z2.ink.c0*z7+z1.ink.c0*z8/\z2.ink.c0*z7+z1.ink.c0*z8<=z12)/\z5<=z1.pos-z2.pos/\z1.pos-z2.pos<=z12))/\A True/\A z33/\True/\A (z3<=z11+z5/\z11+z5<=z4)/\T7 (A z31/\True/\A (z3<=z2.ink.c1/\z2.ink.c1<=z4)/\T3 (A z17/\A (z3<=z2.ink.c1*z7/\z2.ink.c1*z7<=z4)/\T2 (A z31/\True/\A (z3<=z1.ink.c1/\z1.ink.c1<=z4)/\T3 (A z18/\A (z3<=z1.ink.c1*z8/\z1.ink.c1*z8<=z4)/\A (z3<=z2.ink.c1*z7+z1.ink.c1*z8/\z2.ink.c1*z7+z1.ink.c1*z8<=z4)/\T4 (A z16/\(((q13 (z2.ink.c1*z7+z1.ink.c1*z8))/\z10/\True)/\A ((z20<=z2.ink.c1*z7+z1.ink.c1*z8/\z2.ink.c1*z7+z1.ink.c1*z8<=z12)/\z5<=z1.pos-z2.pos/\z1.pos-z2.pos<=z12))/\A True/\A z31/\True/\A (z3<=z11+z5+z5/\z11+z5+z5<=z4)/\T7 (A z29/\True/\A (z3<=z2.ink.c2/\z2.ink.c2<=z4)/\T3 (A z17/\A (z3<=z2.ink.c2*z7/\z2.ink.c2*z7<=z4)/\T2 (A z29/\True/\A (z3<=z1.ink.c2/\z1.ink.c2<=z4)/\T3 (A z18/\A (z3<=z1.ink.c2*z8/\z1.ink.c2*z8<=z4)/\A (z3<=z2.ink.c2*z7+z1.ink.c2*z8/\z2.ink.c2*z7+z1.ink.c2*z8<=z4)/\T4 (A z16/\(((q13 (z2.ink.c2*z7+z1.ink.c2*z8))/\z10/\True)/\A ((z20<=z2.ink.c2*z7+z1.ink.c2*z8/\z2.ink.c2*z7+z1.ink.c2*z8<=z12)/\z5<=z1.pos-z2.pos/\z1.pos-z2.pos<=z12))/\A True/\A z29/\True/\A (z3<=z11+z5+z5+z5/\z11+z5+z5+z5<=z4)/\T7 (A z27/\True/\A (z3<=z2.ink.c3/\z2.ink.c3<=z4)/\T3 (A z17/\A (z3<=z2.ink.c3*z7/\z2.ink.c3*z7<=z4)/\T2 (A z27/\True/\A (z3<=z1.ink.c3/\z1.ink.c3<=z4)/\T3 (A z18/\A (z3<=z1.ink.c3*z8/\z1.ink.c3*z8<=z4)/\A (z3<=z2.ink.c3*z7+z1.ink.c3*z8/\z2.ink.c3*z7+z1.ink.c3*z8<=z4)/\T4 (A z16/\(((q13 (z2.ink.c3*z7+z1.ink.c3*z8))/\z10/\True)/\A ((z20<=z2.ink.c3*z7+z1.ink.c3*z8/\z2.ink.c3*z7+z1.ink.c3*z8<=z12)/\z5<=z1.pos-z2.pos/\z1.pos-z2.pos<=z12))/\A True/\A z27/\True/\A (z3<=z11+z5+z5+z5+z5/\z11+z5+z5+z5+z5<=z4)/\T7 (A z26/\True/\A (z3<=z2.ink.c4/\z2.ink.c4<=z4)/\T3 (A z17/\A (z3<=z2.ink.c4*z7/\z2.ink.c4*z7<=z4)/\T2 (A z26/\True/\A (z3<=z1.ink.c4/\z1.ink.c4<=z4)/\T3 (A z18/\A (z3<=z1.ink.c4*z8/\z1.ink.c4*z8<=z4)/\A (z3<=z2.ink.c4*z7+z1.ink.c4*z8/\z2.ink.c4*z7+z1.ink.c4*z8<=z4)/\T4 (A z16/\(((q13 (z2.ink.c4*z7+z1.ink.c4*z8))/\z10/\True)/\A ((z20<=z2.ink.c4*z7+z1.ink.c4*z8/\z2.ink.c4*z7+z1.ink.c4*z8<=z12)/\z5<=z1.pos-z2.pos/\z1.pos-z2.pos<=z12))/\A True/\A z26/\True/\A (z3<=z11+z5+z5+z5+z5+z5/\z11+z5+z5+z5+z5+z5<=z4)/\T7 (A z24/\True/\A (z3<=z2.ink.c5/\z2.ink.c5<=z4)/\T3 (A z17/\A (z3<=z2.ink.c5*z7/\z2.ink.c5*z7<=z4)/\T2 (A z24/\True/\A (z3<=z1.ink.c5/\z1.ink.c5<=z4)/\T3 (A z18/\A (z3<=z1.ink.c5*z8/\z1.ink.c5*z8<=z4)/\A (z3<=z2.ink.c5*z7+z1.ink.c5*z8/\z2.ink.c5*z7+z1.ink.c5*z8<=z4)/\T4 (A z16/\(((q13 (z2.ink.c5*z7+z1.ink.c5*z8))/\z10/\True)/\A ((z20<=z2.ink.c5*z7+z1.ink.c5*z8/\z2.ink.c5*z7+z1.ink.c5*z8<=z12)/\z5<=z1.pos-z2.pos/\z1.pos-z2.pos<=z12))/\A True/\A z24/\True/\A (z3<=z11+z5+z5+z5+z5+z5+z5/\z11+z5+z5+z5+z5+z5+z5<=z4)/\T7 (A z21/\True/\A (z3<=z2.ink.c6/\z2.ink.c6<=z4)/\T3 (A z17/\A (z3<=z2.ink.c6*z7/\z2.ink.c6*z7<=z4)/\T2 (A z21/\True/\A (z3<=z1.ink.c6/\z1.ink.c6<=z4)/\T3 (A z18/\A (z3<=z1.ink.c6*z8/\z1.ink.c6*z8<=z4)/\A (z3<=z2.ink.c6*z7+z1.ink.c6*z8/\z2.ink.c6*z7+z1.ink.c6*z8<=z4)/\T4 (A z16/\(((q13 (z2.ink.c6*z7+z1.ink.c6*z8))/\z10/\True)/\A ((z20<=z2.ink.c6*z7+z1.ink.c6*z8/\z2.ink.c6*z7+z1.ink.c6*z8<=z12)/\z5<=z1.pos-z2.pos/\z1.pos-z2.pos<=z12))/\A True/\A z21/\True/\A (z3<=z11+z5+z5+z5+z5+z5+z5+z5/\z11+z5+z5+z5+z5+z5+z5+z5<=z4)/\T7 (A z19/\True/\A (z3<=z2.ink.c7/\z2.ink.c7<=z4)/\T3 (A z17/\A (z3<=z2.ink.c7*z7/\z2.ink.c7*z7<=z4)/\T2 (A z19/\True/\A (z3<=z1.ink.c7/\z1.ink.c7<=z4)/\T3 (A z18/\A (z3<=z1.ink.c7*z8/\z1.ink.c7*z8<=z4)/\A (z3<=z2.ink.c7*z7+z1.ink.c7*z8/\z2.ink.c7*z7+z1.ink.c7*z8<=z4)/\T4 (A z16/\(((q13 (z2.ink.c7*z7+z1.ink.c7*z8))/\z10/\True)/\A ((z20<=z2.ink.c7*z7+z1.ink.c7*z8/\z2.ink.c7*z7+z1.ink.c7*z8<=z12)/\z5<=z1.pos-z2.pos/\z1.pos-z2.pos<=z12))/\A True/\A z19/\True/\A (z3<=z11+z5+z5+z5+z5+z5+z5+z5+z5/\z11+z5+z5+z5+z5+z5+z5+z5+z5<=z4)/\T4 (z35/\(((((((True/\A z9/\A (IntKind.u8.wrap (nr (z2.ink.c0*z7+z1.ink.c0*z8) z28)=g.res.c0))/\A z9/\A (IntKind.u8.wrap (nr (z2.ink.c1*z7+z1.ink.c1*z8) z28)=g.res.c1))/\A z9/\A (IntKind.u8.wrap (nr (z2.ink.c2*z7+z1.ink.c2*z8) z28)=g.res.c2))/\A z9/\A (IntKind.u8.wrap (nr (z2.ink.c3*z7+z1.ink.c3*z8) z28)=g.res.c3))/\A z9/\A (IntKind.u8.wrap (nr (z2.ink.c4*z7+z1.ink.c4*z8) z28)=g.res.c4))/\A z9/\A (IntKind.u8.wrap (nr (z2.ink.c5*z7+z1.ink.c5*z8) z28)=g.res.c5))/\A z9/\A (IntKind.u8.wrap (nr (z2.ink.c6*z7+z1.ink.c6*z8) z28)=g.res.c6))/\A z9/\A (IntKind.u8.wrap (nr (z2.ink.c7*z7+z1.ink.c7*z8) z28)=g.res.c7))))))))))))))))))))))))))))))))))))))))))))))))))); (rmI g).pre g_1->T3 (K (decide (z11<=z22-z5)) (T2 (A (z11<=z22-z5/\z22-z5<z32)/\T4 (True/\K (decide (g.t<z2.pos)) (True/\A (z3<=z22-z5-z5/\z22-z5-z5<=z4)/\True/\∃ (g':Nat),A ((rmI g).pre g')/\((z23/\(q13 g.t)/\A ((0:Nat)=(0:Nat))/\(A z13/\A (z22-z5-z5=(↑g':Int)-z5))/\True)/\z30/\True)/\A ((rmI g).meas g'<(rmI g).meas g_1)) (T2 (K (decide (z22-z5<z11)) z6 z0))))) (T3 (K (decide (z22-z5<z11)) z6 z0))))) (by kernel_rfl) ?_;delta qI
 simp only [cln];have am0:∀ {f k:Ink},f=k->(((((((f.c0=k.c0/\f.c1=k.c1)/\f.c2=k.c2)/\f.c3=k.c3)/\f.c4=k.c4)/\f.c5=k.c5)/\f.c6=k.c6)/\f.c7=k.c7):=fun h=>by rw [h]; exact ⟨⟨⟨⟨⟨⟨⟨rfl,rfl⟩,rfl⟩,rfl⟩,rfl⟩,rfl⟩,rfl⟩,rfl⟩
 have n0:=hg.n0;have n1:=hg.n1;refine ⟨by omega,⟨g.n,⟨lh _,rfl⟩,rfl⟩,fun m hm=>?_⟩;obtain ⟨m1,m2⟩:m<=g.n/\g.k=kR g.st g.t m:=hm;refine ⟨fun h0=>⟨by omega,fun hlt=>?_,fun hge=>⟨fun hc=>absurd hc (by omega),fun _=>?_⟩⟩,fun h0=>⟨fun hc=>?_,fun hc=>absurd hc (by omega)⟩⟩
 ·obtain ⟨p,rfl⟩:∃ p,m=p+1:=⟨m-1,by omega⟩
  have e:(((p+1:Nat):Int)-1).toNat=p:=by omega
  rw [e] at hlt;refine ⟨by omega,p,⟨by omega,by rw [m2]; exact lg hlt⟩,by omega,(show p<p+1 by omega)⟩
 ·obtain ⟨p,rfl⟩:∃ p,m=p+1:=⟨m-1,by omega⟩
  have e:(((p+1:Nat):Int)-1).toNat=p:=by omega
  have e1:((p+1:Nat):Int)-1=p:=by omega
  rw [e] at hge;have hk:g.k=p:=by rw [m2]; exact lb hge
  have ea:g.st (((p+1:Nat):Int)-1).toNat=g.a:=by unfold RmG.a; rw [hk,e1]
  have eb:g.st (((p+1:Nat):Int)-1+1).toNat=g.b:=by unfold RmG.b; rw [hk,e1]
  have hap:g.a.pos<=g.t:=by rw [<-ea,e]; omega
  simp only [ea,eb];have r0:¬ g.k<0:=by omega
  refine ⟨by omega,by omega,fun h1=>am0 ?_,fun h1=>⟨fun h2=>am0 ?_,fun h2=>?_⟩⟩
  ·unfold RmG.res; rw [lb r0,lg (.inl (by omega))]
  ·unfold RmG.res; rw [lb r0,lg (.inr h2)]
  have er:g.res=⟨g.mx Ink.c0,g.mx Ink.c1,g.mx Ink.c2,g.mx Ink.c3,g.mx Ink.c4,g.mx Ink.c5,g.mx Ink.c6,g.mx Ink.c7⟩:=by unfold RmG.res; rw [lb r0,lb (fun hc=>hc.elim (fun c=>h1 (by omega)) h2)]
  have pl:p+1<g.n:=by omega
  have hbp:g.t<g.b.pos:=by
   have:=b58 g.st g.t g.n (p+1) (by show g.k<_; omega) pl
   rwa [<-eb,show (((p+1:Nat):Int)-1+1).toNat=p+1 by omega]
  have pa:=hg.pos p (by omega);have pb:=hg.pos (p+1) pl;have ia:=hg.ink p (by omega);have ib:=hg.ink (p+1) pl;have ea':g.st p=g.a:=by rw [<-ea,e]
  have eb':g.st (p+1)=g.b:=by rw [<-eb,show (((p+1:Nat):Int)-1+1).toNat=p+1 by omega]
  rw [ea'] at pa ia;rw [eb'] at pb ib;rw [er];have mulb:∀ {c d:Int},(0<=c/\c<=255)->(0<=d/\d<=65536)->0<=c*d/\c*d<=16711680:=fun h1 h2=>⟨lQ h1.1 h2.1,Int.le_trans (xZ h1.2 h2.2 h2.1 (by decide)) (by decide)⟩
  have t0:=hg.t0;have t1:=hg.t1;have hd1:0<=g.b.pos-g.t/\g.b.pos-g.t<=65536:=by omega
  have hd2:0<=g.t-g.a.pos/\g.t-g.a.pos<=65536:=by omega
  obtain ⟨⟨a0,a1,a2,a3⟩,a4,a5,a6,a7⟩:=ia;obtain ⟨⟨b0,b1,b2,b3⟩,b4,b5,b6,b7⟩:=ib;have p0:=mulb a0 hd1;have p1:=mulb a1 hd1;have p2:=mulb a2 hd1;have p3:=mulb a3 hd1;have p4:=mulb a4 hd1;have p5:=mulb a5 hd1;have p6:=mulb a6 hd1;have p7:=mulb a7 hd1;have q0:=mulb b0 hd2;have q1:=mulb b1 hd2;have q2:=mulb b2 hd2;have q3:=mulb b3 hd2;have q4:=mulb b4 hd2;have q5:=mulb b5 hd2;have q6:=mulb b6 hd2;have q7:=mulb b7 hd2;clear er mulb am0 m2 hk ea eb ea' eb' r0;repeat' (first | refine And.intro ?_ ?_ | (with_reducible exact rfl) | omega | exact rfl)
 ·have hm0:m=0:=by omega
  subst hm0;have hk:g.k<0:=by rw [m2]; show (-1:Int)<0; decide
  refine ⟨by omega,am0 ?_⟩;unfold RmG.res;rw [lg hk];rfl
theorem ar4 (x:Int):0<=IntKind.u8.wrap x/\IntKind.u8.wrap x<=255:=by
 show 0<=x % 256/\x % 256<=255;omega
theorem bR0 {g:RmG}(h:g.ok):u8i g.res:=by
 unfold RmG.res;have hk:=b57 g.st g.t g.n;have hk : -1<=g.k/\g.k<g.n:=hk;split
 ·exact h.ink 0 h.n0
 ·split
  ·exact h.ink _ (by omega)
  ·exact ⟨⟨ar4 _,ar4 _,ar4 _,ar4 _⟩,ar4 _,ar4 _,ar4 _,ar4 _⟩
structure GrOK (s:Src):Prop where
 kind:s.kind=1\/s.kind=2
 f:(-32767<=s.fx/\s.fx<=32767)/\ -32767<=s.fy/\s.fy<=32767
 t:(-32767<=s.tx/\s.tx<=32767)/\ -32767<=s.ty/\s.ty<=32767
 ne:s.kind=1->¬ (s.fx=s.tx/\s.fy=s.ty)
 rad:s.kind≠1->1<=s.rad/\s.rad<=32767
 sp:ap9 ⟨s.ns,s.st⟩=0
theorem b65 {s:Src}(h:grE s=0):GrOK s:=by
 unfold grE at h;split at h
 ·omega
 rename_i h1;split at h
 ·omega
 split at h
 ·omega
 rename_i h3;split at h
 ·omega
 rename_i h4;split at h
 ·omega
 rename_i h5;have h3:=xc.1 h3;exact ⟨by omega,⟨h3.1,h3.2.1⟩,h3.2.2,fun hk hc=>h4 ⟨hk,hc⟩,fun hk=>by omega,h⟩
theorem mulM {M N:Nat}{a b:Int}(ha : -(M:Int)<=a/\a<=M) (hb : -(N:Int)<=b/\b<=N) : -((M*N:Nat):Int)<=a*b/\a*b<=((M*N:Nat):Int):=by
 have h:=ui (show a.natAbs<=M by omega) (show b.natAbs<=N by omega);rw [<-Int.natAbs_mul] at h;exact ⟨by omega,by omega⟩
theorem sq0 (a:Int):0<=a*a/\(a≠0->1<=a*a):=by
 have h:a*a=(a.natAbs*a.natAbs:Nat):=by rw [Int.natCast_mul,Int.natAbs_mul_self']
 refine ⟨by omega,fun hne=>?_⟩;have:=ui (show 1<=a.natAbs by omega) (show 1<=a.natAbs by omega)
 omega
theorem b59 (n:Nat):isq n<=n:=by
 have h:=(aU1 n).1;cases hz:isq n with
 | zero=>omega
 | succ k=>
  rw [hz] at h;have:=ui (lh (k+1)) (show 1<=k+1 by omega)
  omega
structure PlG where
 s:Src
 x:Int
 y:Int
def PlG.dx (g:PlG):Int:=2*g.x+1-2*g.s.fx
def PlG.dy (g:PlG):Int:=2*g.y+1-2*g.s.fy
def PlG.a (g:PlG):Int:=g.s.tx-g.s.fx
def PlG.b (g:PlG):Int:=g.s.ty-g.s.fy
def PlG.t (g:PlG):Int:=if g.s.kind=1 then (65536*(g.a*g.dx+g.b*g.dy)) / (2*(g.a*g.a+g.b*g.b)) else (65536*(isq (g.dx*g.dx+g.dy*g.dy).toNat:Int)).tdiv (2*g.s.rad)
def PlG.res (g:PlG):Int:=max 0 (min 65536 g.t)
def PlG.ok (g:PlG):Prop:=grE g.s=0/\(-8192<=g.x/\g.x<8192)/\ -8192<=g.y/\g.y<8192
def bs5:FSpec:=aa3 110 (γ:=PlG) (fun | [.agg _ g,.int _ x,.int _ y]=>some ⟨srcD g,x,y⟩ | _=>none) (fun g=>[srcS g.s,.int .i64 g.x,.int .i64 g.y]) PlG.ok (fun g=> .int .i64 g.res)
theorem bF9:aa2 Tryz.prog bs5:=by
 refine ssW (specs:=[bE1,bK2]) (⟨bv6,bR7,trivial⟩) Tryz.func110 (fun g=>A0) ?_;rintro ⟨s,x,y⟩ hg;refine ab2 (B:=let T6:=fun p:Prop=>True/\True/\True/\True/\True/\True/\p;let A:=Sx.Ask;let z13:=(1:Int);let z11:=(IntKind.i64=IntKind.i64);let q11:=fun p:Int=>A z11/\A (p=p);let z10:=(s.ty-s.fy);let z9:=(s.tx-s.fx);let z8:=(65536:Int);let z7:=(2:Int);let z14:=(z7*s.rad);let z4:=(z9*z9+z10*z10);let z3:=(9223372036854775807:Int);let z2:=(-9223372036854775808:Int);let z1:=(z7*y+z13-z7*s.fy);let z0:=(z7*x+z13-z7*s.fx);let z12:=(↑(isq (z0*z0+z1*z1).toNat):Int);let z6:=(z8*z12);let z5:=(z9*z0+z10*z1);True/\True/\True/\A (z2<=z7*x/\z7*x<=z3)/\A (z2<=z7*x+z13/\z7*x+z13<=z3)/\True/\True/\True/\A (z2<=z7*s.fx/\z7*s.fx<=z3)/\A (z2<=z7*x+z13-z7*s.fx/\z7*x+z13-z7*s.fx<=z3)/\True/\A (z2<=z7*y/\z7*y<=z3)/\A (z2<=z7*y+z13/\z7*y+z13<=z3)/\True/\True/\True/\A (z2<=z7*s.fy/\z7*s.fy<=z3)/\A (z2<=z7*y+z13-z7*s.fy/\z7*y+z13-z7*s.fy<=z3)/\T6 (Br (decide (s.kind=z13)) (T6 (A (z2<=s.tx-s.fx/\s.tx-s.fx<=z3)/\T6 (A (z2<=s.ty-s.fy/\s.ty-s.fy<=z3)/\True/\True/\True/\True/\A (z2<=z9*z0/\z9*z0<=z3)/\True/\True/\A (z2<=z10*z1/\z10*z1<=z3)/\A (z2<=z9*z0+z10*z1/\z9*z0+z10*z1<=z3)/\A (z2<=z8*z5/\z8*z5<=z3)/\True/\True/\A (z2<=z9*z9/\z9*z9<=z3)/\True/\True/\A (z2<=z10*z10/\z10*z10<=z3)/\A (z2<=z9*z9+z10*z10/\z9*z9+z10*z10<=z3)/\A (z2<=z7*z4/\z7*z4<=z3)/\(((q11 (z8*z5))/\(q11 (z7*z4))/\True)/\A (((-4611686018427387904:Int)<=z8*z5/\z8*z5<=(4611686018427387904:Int))/\z13<=z7*z4/\z7*z4<=z3))/\T6 (A z11/\A ((if (if z8*z5 / (z7*z4)<z8 then z8*z5 / (z7*z4) else z8)>(0:Int) then if z8*z5 / (z7*z4)<z8 then z8*z5 / (z7*z4) else z8 else (0:Int))=(PlG.mk s x y).res))))) (True/\True/\A (z2<=z0*z0/\z0*z0<=z3)/\True/\True/\A (z2<=z1*z1/\z1*z1<=z3)/\A (z2<=z0*z0+z1*z1/\z0*z0+z1*z1<=z3)/\(((q11 (z0*z0+z1*z1))/\True)/\A ((0:Int)<=z0*z0+z1*z1/\z0*z0+z1*z1<=(4611686018427387904:Int)))/\A (z2<=z8*z12/\z8*z12<=z3)/\True/\True/\A (z2<=z7*s.rad/\z7*s.rad<=z3)/\A (z7*s.rad≠(0:Int)/\z2<=z6.tdiv z14/\z6.tdiv z14<=z3)/\T6 (A z11/\A ((if (if z6.tdiv z14<z8 then z6.tdiv z14 else z8)>(0:Int) then if z6.tdiv z14<z8 then z6.tdiv z14 else z8 else (0:Int))=(PlG.mk s x y).res))))) (by kernel_rfl) ?_;simp only [cln];obtain ⟨h0,⟨x1,x2⟩,y1,y2⟩:=hg;have h0:grE s=0:=h0;have x1 : -8192<=x:=x1;have x2:x<8192:=x2;have y1 : -8192<=y:=y1;have y2:y<8192:=y2;obtain ⟨hk,⟨⟨f1,f2⟩,f3,f4⟩,⟨⟨t1,t2⟩,t3,t4⟩,hne,hrad,_⟩:=b65 h0;have er:PlG.res ⟨s,x,y⟩=max 0 (min 65536 (PlG.t ⟨s,x,y⟩)):=rfl;have et:PlG.t ⟨s,x,y⟩=if s.kind=1 then (65536*((s.tx-s.fx)*(2*x+1-2*s.fx)+(s.ty-s.fy)*(2*y+1-2*s.fy))) / (2*((s.tx-s.fx)*(s.tx-s.fx)+(s.ty-s.fy)*(s.ty-s.fy))) else (65536*(isq ((2*x+1-2*s.fx)*(2*x+1-2*s.fx)+(2*y+1-2*s.fy)*(2*y+1-2*s.fy)).toNat:Int)).tdiv (2*s.rad):=rfl
 rw [er,et];generalize hD:2*x+1-2*s.fx=D;generalize hE:2*y+1-2*s.fy=E;generalize hA:s.tx-s.fx=A;generalize hB:s.ty-s.fy=B;have bD : -((100000:Nat):Int)<=D/\D<=((100000:Nat):Int):=by omega
 have bE : -((100000:Nat):Int)<=E/\E<=((100000:Nat):Int):=by omega
 have bA : -((100000:Nat):Int)<=A/\A<=((100000:Nat):Int):=by omega
 have bB : -((100000:Nat):Int)<=B/\B<=((100000:Nat):Int):=by omega
 have m1:=mulM bA bD;have m2:=mulM bB bE;have m3:=mulM bA bA;have m4:=mulM bB bB;have m5:=mulM bD bD;have m6:=mulM bE bE;have z1:=sq0 A;have z2:=sq0 B;have z3:=sq0 D;have z4:=sq0 E;have i1:=b59 (D*D+E*E).toNat;have hAB:s.kind=1->A≠0\/B≠0:=fun h=>by have:=hne h; omega
 refine ⟨by omega,by omega,by omega,by omega,by omega,by omega,by omega,by omega,fun h1=>?_,fun h1=>?_⟩
 ·rw [lg h1];have hAB:=hAB h1;have hs:1<=A*A+B*B:=by
   rcases hAB with h | h
   ·have:=z1.2 h; omega
   ·have:=z2.2 h; omega
  clear hne hrad hAB z1 z2 z3 z4;generalize (65536*(A*D+B*E)) / (2*(A*A+B*B))=Q;generalize A*D=P1 at *
  generalize B*E=P2 at *
  generalize A*A=P3 at *
  generalize B*B=P4 at *
  clear er et i1;repeat' (first | refine And.intro ?_ ?_ | omega)
 ·rw [lb h1];have hr:=hrad h1;clear hne hrad hAB z1 z2;have e1:0<=65536*(isq (D*D+E*E).toNat:Int):=by omega
  have e2:(65536*(isq (D*D+E*E).toNat:Int)).tdiv (2*s.rad)=(65536*(isq (D*D+E*E).toNat:Int)) / (2*s.rad):=uD e1;have e3:0<=(65536*(isq (D*D+E*E).toNat:Int)) / (2*s.rad):=uL e1 (by omega);have e4:(65536*(isq (D*D+E*E).toNat:Int)) / (2*s.rad)<=65536*(isq (D*D+E*E).toNat:Int):=lac _ e1;rw [e2];generalize (65536*(isq (D*D+E*E).toNat:Int)) / (2*s.rad)=Q at *
  generalize isq (D*D+E*E).toNat=I at *
  generalize D*D=P5 at *
  generalize E*E=P6 at *
  clear er et e2 m1 m2 m3 m4;repeat' (first | refine And.intro ?_ ?_ | omega)
def PlG.rm (g:PlG):RmG:=⟨g.s.ns,g.s.st,g.res⟩
def PlG.okP (g:PlG):Prop:=g.ok/\∀ i,i<g.s.ns->u8i (g.s.st i).ink
theorem PlG.b07 {g:PlG}(h:g.okP):g.rm.ok:=by
 have hs:=(b65 h.1.1).sp;have hl:=bz4 h.1.1;unfold ap9 at hs;split at hs
 ·omega
 refine ⟨hl.1,hl.2,fun i hi=>?_,h.2,?_,?_⟩
 ·have hi:i<g.s.ns:=hi;have:=ay0 _ _ hs i (lm _) (by show i<0+g.s.ns; omega)
  unfold spE at this;simp only at this
  split at this
  ·omega
  ·show 0<=(g.s.st i).pos/\(g.s.st i).pos<=65536;omega
 ·show 0<=g.res;unfold PlG.res; omega
 ·show g.res<=65536;unfold PlG.res; omega
def be8:FSpec:=aa3 84 (γ:=PlG) (fun | [.agg _ g,.int _ x,.int _ y]=>some ⟨srcD g,x,y⟩ | _=>none) (fun g=>[srcS g.s,.int .i64 g.x,.int .i64 g.y]) PlG.okP (fun g=> .agg 8 (lst (inkL g.rm.res)))
theorem bw0:aa2 Tryz.prog be8:=by
 refine ssW (specs:=[bs5,bK6]) (⟨bF9,bS2,trivial⟩) Tryz.func84 (fun g=>A0) ?_;rintro g hg;refine ab2 (B:=let A:=Sx.Ask;let z2:=(IntKind.i64=IntKind.i64);let q2:=fun p:Int=>A z2/\A (p=p);let z1:=(IntKind.u8=IntKind.u8);let z0:=(RmG.mk g.s.ns g.s.st g.res);True/\True/\True/\True/\True/\True/\True/\(((qS True g.s g.s)/\(q2 g.x)/\(q2 g.y)/\True)/\A g.ok)/\(((A (g.s.ns=g.s.ns)/\∀ i:Nat,i<g.s.ns->(qI (True/\q2 ((g.s.st i).pos)) ((g.s.st i).ink) ((g.s.st i).ink)))/\(q2 g.res)/\True)/\A z0.ok)/\True/\(True/\True)/\(((((((True/\A z1/\A (z0.res.c0=g.rm.res.c0))/\A z1/\A (z0.res.c1=g.rm.res.c1))/\A z1/\A (z0.res.c2=g.rm.res.c2))/\A z1/\A (z0.res.c3=g.rm.res.c3))/\A z1/\A (z0.res.c4=g.rm.res.c4))/\A z1/\A (z0.res.c5=g.rm.res.c5))/\A z1/\A (z0.res.c6=g.rm.res.c6))/\A z1/\A (z0.res.c7=g.rm.res.c7)) (by kernel_rfl) ?_;delta qG qI qM qS
 simp only [cln];exact ⟨hg.1,g.b07 hg,⟨⟨⟨⟨⟨⟨rfl,rfl⟩,rfl⟩,rfl⟩,rfl⟩,rfl⟩,rfl⟩,rfl⟩
end Lgp
set_option linter.unusedSimpArgs false
set_option linter.unusedVariables false
namespace Imp
open Lsg
open Go.RowKit Sx Num Aff Afi Img Imh
set_option maxRecDepth 100000
structure PtG where
 g:ImgG
 b:Mat
 s:Int
 t:Int
def paiS (g:ImgG) (b:Mat):SV:= .agg 18 (lst (imgL g++matL b))
def shD (g:Nat->SV) (k:Nat):Nat->SV:=fun i=>g (k+i)
def PtG.u (p:PtG):Int:=(p.s-4096) / 8192
def PtG.v (p:PtG):Int:=(p.t-4096) / 8192
def PtG.a (p:PtG):Int:=p.s-4096-p.u*8192
def PtG.c (p:PtG):Int:=p.t-4096-p.v*8192
def PtG.sm (p:PtG) (i j:Int):SmG:=⟨p.g,p.u+i,p.v+j⟩
def PtG.w (p:PtG) (k:Nat):Int:=match k with
 | 0=>(8192-p.a)*(8192-p.c)
 | 1=>p.a*(8192-p.c)
 | 2=>(8192-p.a)*p.c
 | _=>p.a*p.c
def ao0 (f:Ink):Prop:=((0<=f.c0/\f.c0<=255)/\(0<=f.c1/\f.c1<=255)/\(0<=f.c2/\f.c2<=255)/\0<=f.c3/\f.c3<=255)/\(0<=f.c4/\f.c4<=255)/\(0<=f.c5/\f.c5<=255)/\(0<=f.c6/\f.c6<=255)/\0<=f.c7/\f.c7<=255
def PtG.ok (p:PtG):Prop:=(p.g.ok/\∀ i,i<p.g.n->ao0 (p.g.px i))/\(-549755813888<=p.s/\p.s<=549755813888)/\ -549755813888<=p.t/\p.t<=549755813888
def PtG.part (f:Nat->Int) (k:Int):Int:=if k<=0 then 0 else if k=1 then f 0 else if k=2 then f 0+f 1 else if k=3 then f 0+f 1+f 2 else f 0+f 1+f 2+f 3
def PtG.smk (p:PtG) (k:Nat):SmG:=match k with
 | 0=>p.sm 0 0
 | 1=>p.sm 1 0
 | 2=>p.sm 0 1
 | _=>p.sm 1 1
def PtG.allK (p:PtG) (k:Int):Int:=PtG.part (fun j=>p.w j*(p.smk j).soft) k
def PtG.sumK (p:PtG) (f:Ink->Int) (k:Int):Int:=PtG.part (fun j=>p.w j*(p.smk j).soft*f (p.smk j).ink) k
def PtG.soft (p:PtG):Int:=IntKind.u8.wrap (nr (p.allK 4) 67108864)
def PtG.mix (p:PtG) (f:Ink->Int):Int:=IntKind.u8.wrap (nr (p.sumK f 4) (p.allK 4))
def PtG.ink (p:PtG):Ink:=if p.soft=0 then ⟨0,0,0,0,0,0,0,0⟩ else
 ⟨p.mix Ink.c0,p.mix Ink.c1,p.mix Ink.c2,p.mix Ink.c3,p.mix Ink.c4,p.mix Ink.c5,p.mix Ink.c6,p.mix Ink.c7⟩
theorem aI0 (p:PtG) (k:Nat):0<=(p.smk k).soft/\(p.smk k).soft<=255:=by
 unfold SmG.soft;cases (p.smk k).out
 ·rw [xm]; split<;>omega
 ·rw [xK]; decide
theorem bO4 {s:SmG}(hg:s.g.ok) (hi:∀ i,i<s.g.n->ao0 (s.g.px i)):ao0 s.ink:=by
 unfold SmG.ink;cases ho:s.out
 ·rw [xm];refine hi _ ?_;obtain ⟨g,u,v⟩:=s;obtain ⟨⟨⟨w1,w2⟩,h1,h2⟩,hn,hsn⟩:=hg;simp only at w1 w2 h1 h2 hn hsn ⊢
  have rb:∀ a b:Int,0<=a->a<g.h->0<=b->b<g.w->0<=a*g.w/\a*g.w+b<g.n:=fun a b a1 a2 b1 b2=>by
   have q0:0<=a*g.w:=lQ a1 (by omega);have q1:(a+1)*g.w<=g.h*g.w:=lT (by omega) (by omega);rw [Int.add_mul,uE g.h] at q1;omega
  unfold SmG.at;unfold SmG.out at ho;simp only at ho ⊢
  cases hr:g.rep
  ·rw [hr] at ho;simp at ho;rw [xm];have:=rb v u (by omega) (by omega) (by omega) (by omega)
   omega
  ·rw [xK];have:=rb (v % g.h) (u % g.w) (xQ _ (by omega)) (xJ _ (by omega)) (xQ _ (by omega)) (xJ _ (by omega))
   have:=xQ u (b:=g.w) (by omega)
   omega
 ·rw [xK];unfold ao0;simp
theorem bQ3 (p:PtG) (k:Nat):(p.smk k).g=p.g:=by
 unfold PtG.smk;split<;>rfl
theorem ar9 {p:PtG}(hp:p.ok) (k:Nat):ao0 (p.smk k).ink:=bO4 (by rw [bQ3]; exact hp.1.1) (by rw [bQ3]; exact hp.1.2)
theorem w_ok {p:PtG}(k:Nat):0<=p.w k/\p.w k<=67108864:=by
 have ha:0<=p.a/\p.a<=8191:=by unfold PtG.a PtG.u; omega
 have hc:0<=p.c/\p.c<=8191:=by unfold PtG.c PtG.v; omega
 have m:∀ x y:Int,0<=x->x<=8192->0<=y->y<=8192->0<=x*y/\x*y<=67108864:=fun x y x1 x2 y1 y2=>⟨lQ x1 y1,Int.le_trans (xZ x2 y2 y1 (by decide)) (by decide)⟩
 unfold PtG.w;split
 ·exact m _ _ (by omega) (by omega) (by omega) (by omega)
 ·exact m _ _ (by omega) (by omega) (by omega) (by omega)
 ·exact m _ _ (by omega) (by omega) (by omega) (by omega)
 ·exact m _ _ (by omega) (by omega) (by omega) (by omega)
theorem bj8 (p:PtG) (k:Nat):0<=p.w k*(p.smk k).soft/\p.w k*(p.smk k).soft<=17112760320:=by
 have h1:=w_ok (p:=p) k;have h2:=aI0 p k;exact ⟨lQ h1.1 h2.1,Int.le_trans (xZ h1.2 h2.2 h2.1 (by decide)) (by decide)⟩
theorem ad7 (p:PtG) (k:Nat) {c:Int}(hc:0<=c/\c<=255):0<=p.w k*(p.smk k).soft*c/\p.w k*(p.smk k).soft*c<=4363753881600:=by
 have:=bj8 p k
 exact ⟨lQ this.1 hc.1,Int.le_trans (xZ this.2 hc.2 hc.1 (by decide)) (by decide)⟩
theorem bv0 {f:Nat->Int}{M:Int}(h:∀ k,0<=f k/\f k<=M) (k:Int):0<=PtG.part f k/\PtG.part f k<=4*M:=by
 have h0:=h 0;have h1:=h 1;have h2:=h 2;have h3:=h 3;unfold PtG.part;omega
theorem aw3 (p:PtG) (k:Int):0<=p.allK k/\p.allK k<=68451041280:=bv0 (M:=17112760320) (fun j=>bj8 p j) k
theorem ac4 {p:PtG}{f:Ink->Int}(hf:∀ k,0<=f (p.smk k).ink/\f (p.smk k).ink<=255) (k:Int):0<=p.sumK f k/\p.sumK f k<=17455015526400:=bv0 (M:=4363753881600) (fun j=>ad7 p j (hf j)) k
theorem i64w {x M:Int}(h:0<=x/\x<=M) (hM:M<=17455015526400:=by decide) : -9223372036854775808<=x/\x<=9223372036854775807:=by omega
theorem aY9 (f:Nat->Int):(PtG.part f 0+f 0=PtG.part f 1/\PtG.part f 1+f 1=PtG.part f 2)/\PtG.part f 2+f 2=PtG.part f 3/\PtG.part f 3+f 3=PtG.part f 4:=by
 simp [PtG.part]
theorem ink0 {p:PtG}(h:p.soft=0):p.ink=⟨0,0,0,0,0,0,0,0⟩:=lg h
theorem ink1 {p:PtG}(h:¬ p.soft=0):p.ink=⟨p.mix Ink.c0,p.mix Ink.c1,p.mix Ink.c2,p.mix Ink.c3,p.mix Ink.c4,p.mix Ink.c5,p.mix Ink.c6,p.mix Ink.c7⟩:=lb h
theorem bX6 {p:PtG}(h:¬ p.soft=0):1<=p.allK 4:=by
 rcases Int.lt_or_le 0 (p.allK 4) with h1 | h1
 ·exact h1
 refine absurd ?_ h;have h2:p.allK 4=0:=Int.le_antisymm h1 (aw3 p 4).1;unfold PtG.soft;rw [h2];exact xO (by kernel_rfl)
theorem b05 {p:PtG}(hp:p.ok) (k:Nat):(p.smk k).ok:=by
 refine ⟨by rw [bQ3]; exact hp.1.1,?_⟩;obtain ⟨_,⟨h1,h2⟩,h3,h4⟩:=hp;have hu : -67108865<=p.u/\p.u<=67108865:=by unfold PtG.u; omega
 have hv : -67108865<=p.v/\p.v<=67108865:=by unfold PtG.v; omega
 unfold PtG.smk PtG.sm;split<;>exact ⟨⟨by simp only; omega,by simp only; omega⟩,by simp only; omega,by simp only; omega⟩
def be5:FSpec:=aa3 107 (γ:=PtG) (fun | [.agg _ g,.int _ s,.int _ t]=>some ⟨imgD g,matD (shD g 12),s,t⟩ | _=>none) (fun p=>[paiS p.g p.b,.int .i64 p.s,.int .i64 p.t]) PtG.ok (fun p=> .tup 2 (lst [.agg 8 (lst (inkL p.ink)),.int .u8 p.soft]))
def PtG.sumL (p:PtG) (k:Int):List SV:=[.int .i64 (p.sumK Ink.c0 k),.int .i64 (p.sumK Ink.c1 k),.int .i64 (p.sumK Ink.c2 k),.int .i64 (p.sumK Ink.c3 k),.int .i64 (p.sumK Ink.c4 k),.int .i64 (p.sumK Ink.c5 k),.int .i64 (p.sumK Ink.c6 k),.int .i64 (p.sumK Ink.c7 k)]
def smSt (p:PtG) (k:Nat):St:=⟨[(3,.own 0 0),(6,.own 1 0),(12,.own 2 0),(8,.int .i64 p.u),(9,.int .i64 p.v),(13,.int .i64 (p.allK k)),(56,.agg 4 (lst [.int .i64 (p.w 0),.int .i64 (p.w 1),.int .i64 (p.w 2),.int .i64 (p.w 3)])),(57,.int .i64 (Int.ofNat k))],
  [.cells 18 (lst (imgL p.g++matL p.b)) 162,.cells 8 (fun _=> .any) 28,.cells 8 (lst (p.sumL k)) 205]⟩
def aM7 (p:PtG) (k:Nat):Inv:=⟨Unit,fun _=>True,fun _=>⟨[(3,.own 0 0),(6,.own 1 0),(12,.own 2 0),(8,.int .i64 p.u),(9,.int .i64 p.v),(13,.int .i64 (p.allK (k+1:Nat))),(15,.int .i64 (p.w k)),(16,.own 3 0),(17,.int .u8 (p.smk k).soft),(56,.agg 4 (lst [.int .i64 (p.w 0),.int .i64 (p.w 1),.int .i64 (p.w 2),.int .i64 (p.w 3)])),(57,.int .i64 (Int.ofNat k))],
  [.cells 18 (lst (imgL p.g++matL p.b)) 162,.cells 8 (fun _=> .any) 28,.cells 8 (lst (p.sumL k)) 205,.cells 8 (lst (inkL (p.smk k).ink)) 28]⟩,fun _=>0⟩
set_option maxHeartbeats 2000000 in
theorem bv4:aa2 Tryz.prog be5:=by
 refine ssW (specs:=[aS8,aH8]) (⟨aZ3,aA9,trivial⟩) Tryz.func107 (fun g=>(⟨[(6,.steps 5 (smSt g) (fun k=>[(10,.cut (aM7 g k))])),(11,.rounds 9),(21,.rounds 9)],[]⟩:Ann)) ?_;rintro p hp;refine ab2 (B:=let T2:=fun p:Prop=>True/\True/\p;let T3:=fun p:Prop=>True/\True/\True/\p;let T4:=fun p:Prop=>True/\True/\True/\True/\p;let T5:=fun p:Prop=>True/\True/\True/\True/\True/\p;let T6:=fun p:Prop=>True/\True/\True/\True/\True/\True/\p;let T7:=fun p:Prop=>True/\True/\True/\True/\True/\True/\True/\p;let U:=Int.ofNat;let J:=Int.toNat;let K:=IntKind.i64;let A:=Sx.Ask;let z72:=(3:Nat);let z71:=(2:Nat);let z70:=(↑(4:Nat):Int);let z67:=(67108864:Int);let z65:=(qG True p.g p.g);let z63:=(1:Nat);let z61:=(↑K.bits:Int);let z59:=(8192:Int);let z58:=(13:Int);let z52:=(-4611686018427387904:Int);let z49:=(4096:Int);let z78:=(p.s-z49);let z77:=(p.t-z49);let z48:=(2:Int);let z44:=(qM z65 p.b p.b);let z30:=(4611686018427387904:Int);let z29:=(IntKind.u8=IntKind.u8);let z27:=((((((((True/\True)/\True)/\True)/\True)/\True)/\True)/\True)/\True);let z12:=(↑(8:Nat):Int);let z11:=(p.t-z49-z77 / z48 ^ J z58*z48 ^ J z58);let z80:=(z59-z11);let z10:=(p.s-z49-z78 / z48 ^ J z58*z48 ^ J z58);let z79:=(z59-z10);let z9:=(0:Nat);let z74:=(U z9);let z60:=(z9=z9);let z36:=(↑z9:Int);let z21:=(p.smk z9);let z8:=(0:Int);let z68:=(z8<=z58/\z58<=z61);let z47:=(z8<=z8/\z8<z12);let z7:=(K=K);let q7:=fun p:Int=>A z7/\A (p=p);let z51:=(q7 p.v);let z50:=(q7 p.u);let z13:=((((True/\q7 (p.w z9))/\q7 (p.w z63))/\q7 (p.w z71))/\q7 (p.w z72));let z6:=(z9+z63);let z73:=(U z6);let z32:=(↑z6:Int);let z22:=(p.smk z6);let z5:=(9223372036854775807:Int);let z4:=(-9223372036854775808:Int);let z54:=(z4<=z22.soft/\z22.soft<=z5);let z53:=(z4<=z21.soft/\z21.soft<=z5);let z40:=(z4<=p.w z6*z22.soft/\p.w z6*z22.soft<=z5);let z39:=(z4<=p.w z9*z21.soft/\p.w z9*z21.soft<=z5);let z3:=(↑(z9+z63+z63+z63+z63):Int);let z66:=(p.allK z3);let z35:=(q7 (p.allK z3));let z2:=(1:Int);let z69:=(z8<=z2/\z2<=z61);let z64:=(z4<=z8+z2/\z8+z2<=z5);let z62:=(z4<=z8+z2+z2/\z8+z2+z2<=z5);let z57:=(z4<=z8+z2+z2+z2/\z8+z2+z2+z2<=z5);let z46:=(z4<=z8+z2+z2+z2+z2/\z8+z2+z2+z2+z2<=z5);let z45:=(z4<=z8+z2+z2+z2+z2+z2/\z8+z2+z2+z2+z2+z2<=z5);let z43:=(z4<=z8+z2+z2+z2+z2+z2+z2/\z8+z2+z2+z2+z2+z2+z2<=z5);let z38:=(z8<=z8+z2/\z8+z2<z12);let z37:=(z4<=z8+z2+z2+z2+z2+z2+z2+z2/\z8+z2+z2+z2+z2+z2+z2+z2<=z5);let z31:=(z4<=z8+z2+z2+z2+z2+z2+z2+z2+z2/\z8+z2+z2+z2+z2+z2+z2+z2+z2<=z5);let z28:=(z8<=z8+z2+z2/\z8+z2+z2<z12);let z26:=(z8<=z8+z2+z2+z2/\z8+z2+z2+z2<z12);let z25:=(z8<=z8+z2+z2+z2+z2/\z8+z2+z2+z2+z2<z12);let z20:=(z8<=z8+z2+z2+z2+z2+z2/\z8+z2+z2+z2+z2+z2<z12);let z19:=(z8<=z8+z2+z2+z2+z2+z2+z2/\z8+z2+z2+z2+z2+z2+z2<z12);let z16:=(SmG.mk p.g (p.u+Go.bits Go.BinOp.and K z73 z2) (p.v+U z6 / z48 ^ J z2));let z15:=(SmG.mk p.g (p.u+Go.bits Go.BinOp.and K z74 z2) (p.v+U z9 / z48 ^ J z2));let z14:=(z8<=z8+z2+z2+z2+z2+z2+z2+z2/\z8+z2+z2+z2+z2+z2+z2+z2<z12);let z1:=(z9+z63+z63);let z75:=(U z1);let z33:=(↑z1:Int);let z23:=(p.smk z1);let z55:=(z4<=z23.soft/\z23.soft<=z5);let z41:=(z4<=p.w z1*z23.soft/\p.w z1*z23.soft<=z5);let z17:=(SmG.mk p.g (p.u+Go.bits Go.BinOp.and K z75 z2) (p.v+U z1 / z48 ^ J z2));let z0:=(z9+z63+z63+z63);let z76:=(U z0);let z34:=(↑z0:Int);let z24:=(p.smk z0);let z56:=(z4<=z24.soft/\z24.soft<=z5);let z42:=(z4<=p.w z0*z24.soft/\p.w z0*z24.soft<=z5);let z18:=(SmG.mk p.g (p.u+Go.bits Go.BinOp.and K z76 z2) (p.v+U z0 / z48 ^ J z2));T4 (A (z4<=p.s-z49/\p.s-z49<=z5)/\A z68/\True/\A (z4<=p.t-z49/\p.t-z49<=z5)/\A z68/\T3 (A (z4<=p.s-z49/\p.s-z49<=z5)/\True/\A (z68/\z4<=z78 / z48 ^ J z58*z48 ^ J z58/\z78 / z48 ^ J z58*z48 ^ J z58<=z5)/\A (z4<=p.s-z49-z78 / z48 ^ J z58*z48 ^ J z58/\p.s-z49-z78 / z48 ^ J z58*z48 ^ J z58<=z5)/\True/\A (z4<=p.t-z49/\p.t-z49<=z5)/\True/\A (z68/\z4<=z77 / z48 ^ J z58*z48 ^ J z58/\z77 / z48 ^ J z58*z48 ^ J z58<=z5)/\A (z4<=p.t-z49-z77 / z48 ^ J z58*z48 ^ J z58/\p.t-z49-z77 / z48 ^ J z58*z48 ^ J z58<=z5)/\T5 (A (z4<=z59-z10/\z59-z10<=z5)/\True/\A (z4<=z59-z11/\z59-z11<=z5)/\A (z4<=z79*z80/\z79*z80<=z5)/\T2 (A (z4<=z59-z11/\z59-z11<=z5)/\A (z4<=z10*z80/\z10*z80<=z5)/\True/\A (z4<=z59-z10/\z59-z10<=z5)/\True/\A (z4<=z79*z11/\z79*z11<=z5)/\T2 (A (z4<=z10*z11/\z10*z11<=z5)/\T2 (((A z60/\A z60/\A z60/\(A z7/\A (z78 / z48 ^ J z58=p.u))/\(A z7/\A (z77 / z48 ^ J z58=p.v))/\(A z7/\A (z8=p.allK z36))/\((((True/\A z7/\A (z79*z80=p.w z9))/\A z7/\A (z10*z80=p.w z63))/\A z7/\A (z79*z11=p.w z71))/\A z7/\A (z10*z11=p.w z72))/\(A z7/\A (z8=U z9))/\True)/\z44/\z27/\((((((((True/\A z7/\A (z8=p.sumK Ink.c0 z36))/\A z7/\A (z8=p.sumK Ink.c1 z36))/\A z7/\A (z8=p.sumK Ink.c2 z36))/\A z7/\A (z8=p.sumK Ink.c3 z36))/\A z7/\A (z8=p.sumK Ink.c4 z36))/\A z7/\A (z8=p.sumK Ink.c5 z36))/\A z7/\A (z8=p.sumK Ink.c6 z36))/\A z7/\A (z8=p.sumK Ink.c7 z36))/\True)/\T2 (A (z8<=U z9/\U z9<z70)/\T7 (A (z4<=p.u+Go.bits Go.BinOp.and K z74 z2/\p.u+Go.bits Go.BinOp.and K z74 z2<=z5)/\T2 (A z69/\A (z4<=p.v+U z9 / z48 ^ J z2/\p.v+U z9 / z48 ^ J z2<=z5)/\((z65/\(q7 (p.u+Go.bits Go.BinOp.and K z74 z2))/\(q7 (p.v+U z9 / z48 ^ J z2))/\True)/\A z15.ok)/\T6 ((T3 (A (z4<=z15.soft/\z15.soft<=z5)/\A (z4<=p.w z9*z15.soft/\p.w z9*z15.soft<=z5)/\A (z4<=p.allK z36+p.w z9*z15.soft/\p.allK z36+p.w z9*z15.soft<=z5)/\True/\∃ g:Unit,A ((aM7 p z9).pre g)/\(A z60/\A z60/\A z60/\z50/\z51/\(A z7/\A (p.allK z36+p.w z9*z15.soft=p.allK z32))/\(q7 (p.w z9))/\A z60/\(A z29/\A (z15.soft=z21.soft))/\z13/\(q7 (U z9))/\True)/\z44/\z27/\((((((((True/\q7 (p.sumK Ink.c0 z36))/\q7 (p.sumK Ink.c1 z36))/\q7 (p.sumK Ink.c2 z36))/\q7 (p.sumK Ink.c3 z36))/\q7 (p.sumK Ink.c4 z36))/\q7 (p.sumK Ink.c5 z36))/\q7 (p.sumK Ink.c6 z36))/\q7 (p.sumK Ink.c7 z36))/\(qI True (z15.ink) (z21.ink))/\True))/\∀ g:Unit,(aM7 p z9).pre g->T4 (A z47/\T3 (A z47/\T3 (A z53/\A z39/\True/\A (z4<=z21.ink.c0/\z21.ink.c0<=z5)/\A (z4<=p.w z9*z21.soft*z21.ink.c0/\p.w z9*z21.soft*z21.ink.c0<=z5)/\A (z4<=p.sumK Ink.c0 z36+p.w z9*z21.soft*z21.ink.c0/\p.sumK Ink.c0 z36+p.w z9*z21.soft*z21.ink.c0<=z5)/\A z47/\True/\A z64/\T3 (A z38/\T3 (A z38/\T3 (A z53/\A z39/\True/\A (z4<=z21.ink.c1/\z21.ink.c1<=z5)/\A (z4<=p.w z9*z21.soft*z21.ink.c1/\p.w z9*z21.soft*z21.ink.c1<=z5)/\A (z4<=p.sumK Ink.c1 z36+p.w z9*z21.soft*z21.ink.c1/\p.sumK Ink.c1 z36+p.w z9*z21.soft*z21.ink.c1<=z5)/\A z38/\True/\A z62/\T3 (A z28/\T3 (A z28/\T3 (A z53/\A z39/\True/\A (z4<=z21.ink.c2/\z21.ink.c2<=z5)/\A (z4<=p.w z9*z21.soft*z21.ink.c2/\p.w z9*z21.soft*z21.ink.c2<=z5)/\A (z4<=p.sumK Ink.c2 z36+p.w z9*z21.soft*z21.ink.c2/\p.sumK Ink.c2 z36+p.w z9*z21.soft*z21.ink.c2<=z5)/\A z28/\True/\A z57/\T3 (A z26/\T3 (A z26/\T3 (A z53/\A z39/\True/\A (z4<=z21.ink.c3/\z21.ink.c3<=z5)/\A (z4<=p.w z9*z21.soft*z21.ink.c3/\p.w z9*z21.soft*z21.ink.c3<=z5)/\A (z4<=p.sumK Ink.c3 z36+p.w z9*z21.soft*z21.ink.c3/\p.sumK Ink.c3 z36+p.w z9*z21.soft*z21.ink.c3<=z5)/\A z26/\True/\A z46/\T3 (A z25/\T3 (A z25/\T3 (A z53/\A z39/\True/\A (z4<=z21.ink.c4/\z21.ink.c4<=z5)/\A (z4<=p.w z9*z21.soft*z21.ink.c4/\p.w z9*z21.soft*z21.ink.c4<=z5)/\A (z4<=p.sumK Ink.c4 z36+p.w z9*z21.soft*z21.ink.c4/\p.sumK Ink.c4 z36+p.w z9*z21.soft*z21.ink.c4<=z5)/\A z25/\True/\A z45/\T3 (A z20/\T3 (A z20/\T3 (A z53/\A z39/\True/\A (z4<=z21.ink.c5/\z21.ink.c5<=z5)/\A (z4<=p.w z9*z21.soft*z21.ink.c5/\p.w z9*z21.soft*z21.ink.c5<=z5)/\A (z4<=p.sumK Ink.c5 z36+p.w z9*z21.soft*z21.ink.c5/\p.sumK Ink.c5 z36+p.w z9*z21.soft*z21.ink.c5<=z5)/\A z20/\True/\A z43/\T3 (A z19/\T3 (A z19/\T3 (A z53/\A z39/\True/\A (z4<=z21.ink.c6/\z21.ink.c6<=z5)/\A (z4<=p.w z9*z21.soft*z21.ink.c6/\p.w z9*z21.soft*z21.ink.c6<=z5)/\A (z4<=p.sumK Ink.c6 z36+p.w z9*z21.soft*z21.ink.c6/\p.sumK Ink.c6 z36+p.w z9*z21.soft*z21.ink.c6<=z5)/\A z19/\True/\A z37/\T3 (A z14/\T3 (A z14/\T3 (A z53/\A z39/\True/\A (z4<=z21.ink.c7/\z21.ink.c7<=z5)/\A (z4<=p.w z9*z21.soft*z21.ink.c7/\p.w z9*z21.soft*z21.ink.c7<=z5)/\A (z4<=p.sumK Ink.c7 z36+p.w z9*z21.soft*z21.ink.c7/\p.sumK Ink.c7 z36+p.w z9*z21.soft*z21.ink.c7<=z5)/\A z14/\True/\A z31/\T2 (A (z4<=U z9+z2/\U z9+z2<=z5)/\True/\((A z60/\A z60/\A z60/\z50/\z51/\(q7 (p.allK z32))/\z13/\(A z7/\A (U z9+z2=U z6))/\True)/\z44/\z27/\((((((((True/\A z7/\A (p.sumK Ink.c0 z36+p.w z9*z21.soft*z21.ink.c0=p.sumK Ink.c0 z32))/\A z7/\A (p.sumK Ink.c1 z36+p.w z9*z21.soft*z21.ink.c1=p.sumK Ink.c1 z32))/\A z7/\A (p.sumK Ink.c2 z36+p.w z9*z21.soft*z21.ink.c2=p.sumK Ink.c2 z32))/\A z7/\A (p.sumK Ink.c3 z36+p.w z9*z21.soft*z21.ink.c3=p.sumK Ink.c3 z32))/\A z7/\A (p.sumK Ink.c4 z36+p.w z9*z21.soft*z21.ink.c4=p.sumK Ink.c4 z32))/\A z7/\A (p.sumK Ink.c5 z36+p.w z9*z21.soft*z21.ink.c5=p.sumK Ink.c5 z32))/\A z7/\A (p.sumK Ink.c6 z36+p.w z9*z21.soft*z21.ink.c6=p.sumK Ink.c6 z32))/\A z7/\A (p.sumK Ink.c7 z36+p.w z9*z21.soft*z21.ink.c7=p.sumK Ink.c7 z32))/\True)/\T2 (A (z8<=U z6/\U z6<z70)/\T7 (A (z4<=p.u+Go.bits Go.BinOp.and K z73 z2/\p.u+Go.bits Go.BinOp.and K z73 z2<=z5)/\T2 (A z69/\A (z4<=p.v+U z6 / z48 ^ J z2/\p.v+U z6 / z48 ^ J z2<=z5)/\((z65/\(q7 (p.u+Go.bits Go.BinOp.and K z73 z2))/\(q7 (p.v+U z6 / z48 ^ J z2))/\True)/\A z16.ok)/\T6 ((T3 (A (z4<=z16.soft/\z16.soft<=z5)/\A (z4<=p.w z63*z16.soft/\p.w z63*z16.soft<=z5)/\A (z4<=p.allK z32+p.w z63*z16.soft/\p.allK z32+p.w z63*z16.soft<=z5)/\True/\∃ g:Unit,A ((aM7 p z6).pre g)/\(A z60/\A z60/\A z60/\z50/\z51/\(A z7/\A (p.allK z32+p.w z63*z16.soft=p.allK z33))/\(A z7/\A (p.w z63=p.w z6))/\A z60/\(A z29/\A (z16.soft=z22.soft))/\z13/\(q7 (U z6))/\True)/\z44/\z27/\((((((((True/\q7 (p.sumK Ink.c0 z32))/\q7 (p.sumK Ink.c1 z32))/\q7 (p.sumK Ink.c2 z32))/\q7 (p.sumK Ink.c3 z32))/\q7 (p.sumK Ink.c4 z32))/\q7 (p.sumK Ink.c5 z32))/\q7 (p.sumK Ink.c6 z32))/\q7 (p.sumK Ink.c7 z32))/\(qI True (z16.ink) (z22.ink))/\True))/\∀ g:Unit,(aM7 p z6).pre g->T4 (A z47/\T3 (A z47/\T3 (A z54/\A z40/\True/\A (z4<=z22.ink.c0/\z22.ink.c0<=z5)/\A (z4<=p.w z6*z22.soft*z22.ink.c0/\p.w z6*z22.soft*z22.ink.c0<=z5)/\A (z4<=p.sumK Ink.c0 z32+p.w z6*z22.soft*z22.ink.c0/\p.sumK Ink.c0 z32+p.w z6*z22.soft*z22.ink.c0<=z5)/\A z47/\True/\A z64/\T3 (A z38/\T3 (A z38/\T3 (A z54/\A z40/\True/\A (z4<=z22.ink.c1/\z22.ink.c1<=z5)/\A (z4<=p.w z6*z22.soft*z22.ink.c1/\p.w z6*z22.soft*z22.ink.c1<=z5)/\A (z4<=p.sumK Ink.c1 z32+p.w z6*z22.soft*z22.ink.c1/\p.sumK Ink.c1 z32+p.w z6*z22.soft*z22.ink.c1<=z5)/\A z38/\True/\A z62/\T3 (A z28/\T3 (A z28/\T3 (A z54/\A z40/\True/\A (z4<=z22.ink.c2/\z22.ink.c2<=z5)/\A (z4<=p.w z6*z22.soft*z22.ink.c2/\p.w z6*z22.soft*z22.ink.c2<=z5)/\A (z4<=p.sumK Ink.c2 z32+p.w z6*z22.soft*z22.ink.c2/\p.sumK Ink.c2 z32+p.w z6*z22.soft*z22.ink.c2<=z5)/\A z28/\True/\A z57/\T3 (A z26/\T3 (A z26/\T3 (A z54/\A z40/\True/\A (z4<=z22.ink.c3/\z22.ink.c3<=z5)/\A (z4<=p.w z6*z22.soft*z22.ink.c3/\p.w z6*z22.soft*z22.ink.c3<=z5)/\A (z4<=p.sumK Ink.c3 z32+p.w z6*z22.soft*z22.ink.c3/\p.sumK Ink.c3 z32+p.w z6*z22.soft*z22.ink.c3<=z5)/\A z26/\True/\A z46/\T3 (A z25/\T3 (A z25/\T3 (A z54/\A z40/\True/\A (z4<=z22.ink.c4/\z22.ink.c4<=z5)/\A (z4<=p.w z6*z22.soft*z22.ink.c4/\p.w z6*z22.soft*z22.ink.c4<=z5)/\A (z4<=p.sumK Ink.c4 z32+p.w z6*z22.soft*z22.ink.c4/\p.sumK Ink.c4 z32+p.w z6*z22.soft*z22.ink.c4<=z5)/\A z25/\True/\A z45/\T3 (A z20/\T3 (A z20/\T3 (A z54/\A z40/\True/\A (z4<=z22.ink.c5/\z22.ink.c5<=z5)/\A (z4<=p.w z6*z22.soft*z22.ink.c5/\p.w z6*z22.soft*z22.ink.c5<=z5)/\A (z4<=p.sumK Ink.c5 z32+p.w z6*z22.soft*z22.ink.c5/\p.sumK Ink.c5 z32+p.w z6*z22.soft*z22.ink.c5<=z5)/\A z20/\True/\A z43/\T3 (A z19/\T3 (A z19/\T3 (A z54/\A z40/\True/\A (z4<=z22.ink.c6/\z22.ink.c6<=z5)/\A (z4<=p.w z6*z22.soft*z22.ink.c6/\p.w z6*z22.soft*z22.ink.c6<=z5)/\A (z4<=p.sumK Ink.c6 z32+p.w z6*z22.soft*z22.ink.c6/\p.sumK Ink.c6 z32+p.w z6*z22.soft*z22.ink.c6<=z5)/\A z19/\True/\A z37/\T3 (A z14/\T3 (A z14/\T3 (A z54/\A z40/\True/\A (z4<=z22.ink.c7/\z22.ink.c7<=z5)/\A (z4<=p.w z6*z22.soft*z22.ink.c7/\p.w z6*z22.soft*z22.ink.c7<=z5)/\A (z4<=p.sumK Ink.c7 z32+p.w z6*z22.soft*z22.ink.c7/\p.sumK Ink.c7 z32+p.w z6*z22.soft*z22.ink.c7<=z5)/\A z14/\True/\A z31/\T2 (A (z4<=U z6+z2/\U z6+z2<=z5)/\True/\((A z60/\A z60/\A z60/\z50/\z51/\(q7 (p.allK z33))/\z13/\(A z7/\A (U z6+z2=U z1))/\True)/\z44/\z27/\((((((((True/\A z7/\A (p.sumK Ink.c0 z32+p.w z6*z22.soft*z22.ink.c0=p.sumK Ink.c0 z33))/\A z7/\A (p.sumK Ink.c1 z32+p.w z6*z22.soft*z22.ink.c1=p.sumK Ink.c1 z33))/\A z7/\A (p.sumK Ink.c2 z32+p.w z6*z22.soft*z22.ink.c2=p.sumK Ink.c2 z33))/\A z7/\A (p.sumK Ink.c3 z32+p.w z6*z22.soft*z22.ink.c3=p.sumK Ink.c3 z33))/\A z7/\A (p.sumK Ink.c4 z32+p.w z6*z22.soft*z22.ink.c4=p.sumK Ink.c4 z33))/\A z7/\A (p.sumK Ink.c5 z32+p.w z6*z22.soft*z22.ink.c5=p.sumK Ink.c5 z33))/\A z7/\A (p.sumK Ink.c6 z32+p.w z6*z22.soft*z22.ink.c6=p.sumK Ink.c6 z33))/\A z7/\A (p.sumK Ink.c7 z32+p.w z6*z22.soft*z22.ink.c7=p.sumK Ink.c7 z33))/\True)/\T2 (A (z8<=U z1/\U z1<z70)/\T7 (A (z4<=p.u+Go.bits Go.BinOp.and K z75 z2/\p.u+Go.bits Go.BinOp.and K z75 z2<=z5)/\T2 (A z69/\A (z4<=p.v+U z1 / z48 ^ J z2/\p.v+U z1 / z48 ^ J z2<=z5)/\((z65/\(q7 (p.u+Go.bits Go.BinOp.and K z75 z2))/\(q7 (p.v+U z1 / z48 ^ J z2))/\True)/\A z17.ok)/\T6 ((T3 (A (z4<=z17.soft/\z17.soft<=z5)/\A (z4<=p.w z71*z17.soft/\p.w z71*z17.soft<=z5)/\A (z4<=p.allK z33+p.w z71*z17.soft/\p.allK z33+p.w z71*z17.soft<=z5)/\True/\∃ g:Unit,A ((aM7 p z1).pre g)/\(A z60/\A z60/\A z60/\z50/\z51/\(A z7/\A (p.allK z33+p.w z71*z17.soft=p.allK z34))/\(A z7/\A (p.w z71=p.w z1))/\A z60/\(A z29/\A (z17.soft=z23.soft))/\z13/\(q7 (U z1))/\True)/\z44/\z27/\((((((((True/\q7 (p.sumK Ink.c0 z33))/\q7 (p.sumK Ink.c1 z33))/\q7 (p.sumK Ink.c2 z33))/\q7 (p.sumK Ink.c3 z33))/\q7 (p.sumK Ink.c4 z33))/\q7 (p.sumK Ink.c5 z33))/\q7 (p.sumK Ink.c6 z33))/\q7 (p.sumK Ink.c7 z33))/\(qI True (z17.ink) (z23.ink))/\True))/\∀ g:Unit,(aM7 p z1).pre g->T4 (A z47/\T3 (A z47/\T3 (A z55/\A z41/\True/\A (z4<=z23.ink.c0/\z23.ink.c0<=z5)/\A (z4<=p.w z1*z23.soft*z23.ink.c0/\p.w z1*z23.soft*z23.ink.c0<=z5)/\A (z4<=p.sumK Ink.c0 z33+p.w z1*z23.soft*z23.ink.c0/\p.sumK Ink.c0 z33+p.w z1*z23.soft*z23.ink.c0<=z5)/\A z47/\True/\A z64/\T3 (A z38/\T3 (A z38/\T3 (A z55/\A z41/\True/\A (z4<=z23.ink.c1/\z23.ink.c1<=z5)/\A (z4<=p.w z1*z23.soft*z23.ink.c1/\p.w z1*z23.soft*z23.ink.c1<=z5)/\A (z4<=p.sumK Ink.c1 z33+p.w z1*z23.soft*z23.ink.c1/\p.sumK Ink.c1 z33+p.w z1*z23.soft*z23.ink.c1<=z5)/\A z38/\True/\A z62/\T3 (A z28/\T3 (A z28/\T3 (A z55/\A z41/\True/\A (z4<=z23.ink.c2/\z23.ink.c2<=z5)/\A (z4<=p.w z1*z23.soft*z23.ink.c2/\p.w z1*z23.soft*z23.ink.c2<=z5)/\A (z4<=p.sumK Ink.c2 z33+p.w z1*z23.soft*z23.ink.c2/\p.sumK Ink.c2 z33+p.w z1*z23.soft*z23.ink.c2<=z5)/\A z28/\True/\A z57/\T3 (A z26/\T3 (A z26/\T3 (A z55/\A z41/\True/\A (z4<=z23.ink.c3/\z23.ink.c3<=z5)/\A (z4<=p.w z1*z23.soft*z23.ink.c3/\p.w z1*z23.soft*z23.ink.c3<=z5)/\A (z4<=p.sumK Ink.c3 z33+p.w z1*z23.soft*z23.ink.c3/\p.sumK Ink.c3 z33+p.w z1*z23.soft*z23.ink.c3<=z5)/\A z26/\True/\A z46/\T3 (A z25/\T3 (A z25/\T3 (A z55/\A z41/\True/\A (z4<=z23.ink.c4/\z23.ink.c4<=z5)/\A (z4<=p.w z1*z23.soft*z23.ink.c4/\p.w z1*z23.soft*z23.ink.c4<=z5)/\A (z4<=p.sumK Ink.c4 z33+p.w z1*z23.soft*z23.ink.c4/\p.sumK Ink.c4 z33+p.w z1*z23.soft*z23.ink.c4<=z5)/\A z25/\True/\A z45/\T3 (A z20/\T3 (A z20/\T3 (A z55/\A z41/\True/\A (z4<=z23.ink.c5/\z23.ink.c5<=z5)/\A (z4<=p.w z1*z23.soft*z23.ink.c5/\p.w z1*z23.soft*z23.ink.c5<=z5)/\A (z4<=p.sumK Ink.c5 z33+p.w z1*z23.soft*z23.ink.c5/\p.sumK Ink.c5 z33+p.w z1*z23.soft*z23.ink.c5<=z5)/\A z20/\True/\A z43/\T3 (A z19/\T3 (A z19/\T3 (A z55/\A z41/\True/\A (z4<=z23.ink.c6/\z23.ink.c6<=z5)/\A (z4<=p.w z1*z23.soft*z23.ink.c6/\p.w z1*z23.soft*z23.ink.c6<=z5)/\A (z4<=p.sumK Ink.c6 z33+p.w z1*z23.soft*z23.ink.c6/\p.sumK Ink.c6 z33+p.w z1*z23.soft*z23.ink.c6<=z5)/\A z19/\True/\A z37/\T3 (A z14/\T3 (A z14/\T3 (A z55/\A z41/\True/\A (z4<=z23.ink.c7/\z23.ink.c7<=z5)/\A (z4<=p.w z1*z23.soft*z23.ink.c7/\p.w z1*z23.soft*z23.ink.c7<=z5)/\A (z4<=p.sumK Ink.c7 z33+p.w z1*z23.soft*z23.ink.c7/\p.sumK Ink.c7 z33+p.w z1*z23.soft*z23.ink.c7<=z5)/\A z14/\True/\A z31/\T2 (A (z4<=U z1+z2/\U z1+z2<=z5)/\True/\((A z60/\A z60/\A z60/\z50/\z51/\(q7 (p.allK z34))/\z13/\(A z7/\A (U z1+z2=U z0))/\True)/\z44/\z27/\((((((((True/\A z7/\A (p.sumK Ink.c0 z33+p.w z1*z23.soft*z23.ink.c0=p.sumK Ink.c0 z34))/\A z7/\A (p.sumK Ink.c1 z33+p.w z1*z23.soft*z23.ink.c1=p.sumK Ink.c1 z34))/\A z7/\A (p.sumK Ink.c2 z33+p.w z1*z23.soft*z23.ink.c2=p.sumK Ink.c2 z34))/\A z7/\A (p.sumK Ink.c3 z33+p.w z1*z23.soft*z23.ink.c3=p.sumK Ink.c3 z34))/\A z7/\A (p.sumK Ink.c4 z33+p.w z1*z23.soft*z23.ink.c4=p.sumK Ink.c4 z34))/\A z7/\A (p.sumK Ink.c5 z33+p.w z1*z23.soft*z23.ink.c5=p.sumK Ink.c5 z34))/\A z7/\A (p.sumK Ink.c6 z33+p.w z1*z23.soft*z23.ink.c6=p.sumK Ink.c6 z34))/\A z7/\A (p.sumK Ink.c7 z33+p.w z1*z23.soft*z23.ink.c7=p.sumK Ink.c7 z34))/\True)/\T2 (A (z8<=U z0/\U z0<z70)/\T7 (A (z4<=p.u+Go.bits Go.BinOp.and K z76 z2/\p.u+Go.bits Go.BinOp.and K z76 z2<=z5)/\T2 (A z69/\A (z4<=p.v+U z0 / z48 ^ J z2/\p.v+U z0 / z48 ^ J z2<=z5)/\((z65/\(q7 (p.u+Go.bits Go.BinOp.and K z76 z2))/\(q7 (p.v+U z0 / z48 ^ J z2))/\True)/\A z18.ok)/\T6 ((T3 (A (z4<=z18.soft/\z18.soft<=z5)/\A (z4<=p.w z72*z18.soft/\p.w z72*z18.soft<=z5)/\A (z4<=p.allK z34+p.w z72*z18.soft/\p.allK z34+p.w z72*z18.soft<=z5)/\True/\∃ g:Unit,A ((aM7 p z0).pre g)/\(A z60/\A z60/\A z60/\z50/\z51/\(A z7/\A (p.allK z34+p.w z72*z18.soft=p.allK z3))/\(A z7/\A (p.w z72=p.w z0))/\A z60/\(A z29/\A (z18.soft=z24.soft))/\z13/\(q7 (U z0))/\True)/\z44/\z27/\((((((((True/\q7 (p.sumK Ink.c0 z34))/\q7 (p.sumK Ink.c1 z34))/\q7 (p.sumK Ink.c2 z34))/\q7 (p.sumK Ink.c3 z34))/\q7 (p.sumK Ink.c4 z34))/\q7 (p.sumK Ink.c5 z34))/\q7 (p.sumK Ink.c6 z34))/\q7 (p.sumK Ink.c7 z34))/\(qI True (z18.ink) (z24.ink))/\True))/\∀ g:Unit,(aM7 p z0).pre g->T4 (A z47/\T3 (A z47/\T3 (A z56/\A z42/\True/\A (z4<=z24.ink.c0/\z24.ink.c0<=z5)/\A (z4<=p.w z0*z24.soft*z24.ink.c0/\p.w z0*z24.soft*z24.ink.c0<=z5)/\A (z4<=p.sumK Ink.c0 z34+p.w z0*z24.soft*z24.ink.c0/\p.sumK Ink.c0 z34+p.w z0*z24.soft*z24.ink.c0<=z5)/\A z47/\True/\A z64/\T3 (A z38/\T3 (A z38/\T3 (A z56/\A z42/\True/\A (z4<=z24.ink.c1/\z24.ink.c1<=z5)/\A (z4<=p.w z0*z24.soft*z24.ink.c1/\p.w z0*z24.soft*z24.ink.c1<=z5)/\A (z4<=p.sumK Ink.c1 z34+p.w z0*z24.soft*z24.ink.c1/\p.sumK Ink.c1 z34+p.w z0*z24.soft*z24.ink.c1<=z5)/\A z38/\True/\A z62/\T3 (A z28/\T3 (A z28/\T3 (A z56/\A z42/\True/\A (z4<=z24.ink.c2/\z24.ink.c2<=z5)/\A (z4<=p.w z0*z24.soft*z24.ink.c2/\p.w z0*z24.soft*z24.ink.c2<=z5)/\A (z4<=p.sumK Ink.c2 z34+p.w z0*z24.soft*z24.ink.c2/\p.sumK Ink.c2 z34+p.w z0*z24.soft*z24.ink.c2<=z5)/\A z28/\True/\A z57/\T3 (A z26/\T3 (A z26/\T3 (A z56/\A z42/\True/\A (z4<=z24.ink.c3/\z24.ink.c3<=z5)/\A (z4<=p.w z0*z24.soft*z24.ink.c3/\p.w z0*z24.soft*z24.ink.c3<=z5)/\A (z4<=p.sumK Ink.c3 z34+p.w z0*z24.soft*z24.ink.c3/\p.sumK Ink.c3 z34+p.w z0*z24.soft*z24.ink.c3<=z5)/\A z26/\True/\A z46/\T3 (A z25/\T3 (A z25/\T3 (A z56/\A z42/\True/\A (z4<=z24.ink.c4/\z24.ink.c4<=z5)/\A (z4<=p.w z0*z24.soft*z24.ink.c4/\p.w z0*z24.soft*z24.ink.c4<=z5)/\A (z4<=p.sumK Ink.c4 z34+p.w z0*z24.soft*z24.ink.c4/\p.sumK Ink.c4 z34+p.w z0*z24.soft*z24.ink.c4<=z5)/\A z25/\True/\A z45/\T3 (A z20/\T3 (A z20/\T3 (A z56/\A z42/\True/\A (z4<=z24.ink.c5/\z24.ink.c5<=z5)/\A (z4<=p.w z0*z24.soft*z24.ink.c5/\p.w z0*z24.soft*z24.ink.c5<=z5)/\A (z4<=p.sumK Ink.c5 z34+p.w z0*z24.soft*z24.ink.c5/\p.sumK Ink.c5 z34+p.w z0*z24.soft*z24.ink.c5<=z5)/\A z20/\True/\A z43/\T3 (A z19/\T3 (A z19/\T3 (A z56/\A z42/\True/\A (z4<=z24.ink.c6/\z24.ink.c6<=z5)/\A (z4<=p.w z0*z24.soft*z24.ink.c6/\p.w z0*z24.soft*z24.ink.c6<=z5)/\A (z4<=p.sumK Ink.c6 z34+p.w z0*z24.soft*z24.ink.c6/\p.sumK Ink.c6 z34+p.w z0*z24.soft*z24.ink.c6<=z5)/\A z19/\True/\A z37/\T3 (A z14/\T3 (A z14/\T3 (A z56/\A z42/\True/\A (z4<=z24.ink.c7/\z24.ink.c7<=z5)/\A (z4<=p.w z0*z24.soft*z24.ink.c7/\p.w z0*z24.soft*z24.ink.c7<=z5)/\A (z4<=p.sumK Ink.c7 z34+p.w z0*z24.soft*z24.ink.c7/\p.sumK Ink.c7 z34+p.w z0*z24.soft*z24.ink.c7<=z5)/\A z14/\True/\A z31/\T2 (A (z4<=U z0+z2/\U z0+z2<=z5)/\True/\((A z60/\A z60/\A z60/\z50/\z51/\z35/\z13/\(A z7/\A (U z0+z2=U (z9+z63+z63+z63+z63)))/\True)/\z44/\z27/\((((((((True/\A z7/\A (p.sumK Ink.c0 z34+p.w z0*z24.soft*z24.ink.c0=p.sumK Ink.c0 z3))/\A z7/\A (p.sumK Ink.c1 z34+p.w z0*z24.soft*z24.ink.c1=p.sumK Ink.c1 z3))/\A z7/\A (p.sumK Ink.c2 z34+p.w z0*z24.soft*z24.ink.c2=p.sumK Ink.c2 z3))/\A z7/\A (p.sumK Ink.c3 z34+p.w z0*z24.soft*z24.ink.c3=p.sumK Ink.c3 z3))/\A z7/\A (p.sumK Ink.c4 z34+p.w z0*z24.soft*z24.ink.c4=p.sumK Ink.c4 z3))/\A z7/\A (p.sumK Ink.c5 z34+p.w z0*z24.soft*z24.ink.c5=p.sumK Ink.c5 z3))/\A z7/\A (p.sumK Ink.c6 z34+p.w z0*z24.soft*z24.ink.c6=p.sumK Ink.c6 z3))/\A z7/\A (p.sumK Ink.c7 z34+p.w z0*z24.soft*z24.ink.c7=p.sumK Ink.c7 z3))/\True)/\T2 (((z35/\(q7 z67)/\True)/\A ((z52<=p.allK z3/\p.allK z3<=z30)/\z2<=z67/\z67<=z30))/\A True/\T4 (Br (decide (IntKind.u8.wrap (nr z66 z67)=z8)) (T3 ((True/\True)/\(True/\(((((((True/\A z29/\A (z8=p.ink.c0))/\A z29/\A (z8=p.ink.c1))/\A z29/\A (z8=p.ink.c2))/\A z29/\A (z8=p.ink.c3))/\A z29/\A (z8=p.ink.c4))/\A z29/\A (z8=p.ink.c5))/\A z29/\A (z8=p.ink.c6))/\A z29/\A (z8=p.ink.c7))/\A z29/\A (z8=p.soft))) (T4 (A z47/\T5 ((((q7 (p.sumK Ink.c0 z3))/\z35/\True)/\A ((z52<=p.sumK Ink.c0 z3/\p.sumK Ink.c0 z3<=z30)/\z2<=p.allK z3/\p.allK z3<=z30))/\A True/\A z47/\True/\A z64/\T3 (A z38/\T5 ((((q7 (p.sumK Ink.c1 z3))/\z35/\True)/\A ((z52<=p.sumK Ink.c1 z3/\p.sumK Ink.c1 z3<=z30)/\z2<=p.allK z3/\p.allK z3<=z30))/\A True/\A z38/\True/\A z62/\T3 (A z28/\T5 ((((q7 (p.sumK Ink.c2 z3))/\z35/\True)/\A ((z52<=p.sumK Ink.c2 z3/\p.sumK Ink.c2 z3<=z30)/\z2<=p.allK z3/\p.allK z3<=z30))/\A True/\A z28/\True/\A z57/\T3 (A z26/\T5 ((((q7 (p.sumK Ink.c3 z3))/\z35/\True)/\A ((z52<=p.sumK Ink.c3 z3/\p.sumK Ink.c3 z3<=z30)/\z2<=p.allK z3/\p.allK z3<=z30))/\A True/\A z26/\True/\A z46/\T3 (A z25/\T5 ((((q7 (p.sumK Ink.c4 z3))/\z35/\True)/\A ((z52<=p.sumK Ink.c4 z3/\p.sumK Ink.c4 z3<=z30)/\z2<=p.allK z3/\p.allK z3<=z30))/\A True/\A z25/\True/\A z45/\T3 (A z20/\T5 ((((q7 (p.sumK Ink.c5 z3))/\z35/\True)/\A ((z52<=p.sumK Ink.c5 z3/\p.sumK Ink.c5 z3<=z30)/\z2<=p.allK z3/\p.allK z3<=z30))/\A True/\A z20/\True/\A z43/\T3 (A z19/\T5 ((((q7 (p.sumK Ink.c6 z3))/\z35/\True)/\A ((z52<=p.sumK Ink.c6 z3/\p.sumK Ink.c6 z3<=z30)/\z2<=p.allK z3/\p.allK z3<=z30))/\A True/\A z19/\True/\A z37/\T3 (A z14/\T5 ((((q7 (p.sumK Ink.c7 z3))/\z35/\True)/\A ((z52<=p.sumK Ink.c7 z3/\p.sumK Ink.c7 z3<=z30)/\z2<=p.allK z3/\p.allK z3<=z30))/\A True/\A z14/\True/\A z31/\T6 ((True/\True)/\(True/\(((((((True/\A z29/\A (IntKind.u8.wrap (nr (p.sumK Ink.c0 z3) z66)=p.ink.c0))/\A z29/\A (IntKind.u8.wrap (nr (p.sumK Ink.c1 z3) z66)=p.ink.c1))/\A z29/\A (IntKind.u8.wrap (nr (p.sumK Ink.c2 z3) z66)=p.ink.c2))/\A z29/\A (IntKind.u8.wrap (nr (p.sumK Ink.c3 z3) z66)=p.ink.c3))/\A z29/\A (IntKind.u8.wrap (nr (p.sumK Ink.c4 z3) z66)=p.ink.c4))/\A z29/\A (IntKind.u8.wrap (nr (p.sumK Ink.c5 z3) z66)=p.ink.c5))/\A z29/\A (IntKind.u8.wrap (nr (p.sumK Ink.c6 z3) z66)=p.ink.c6))/\A z29/\A (IntKind.u8.wrap (nr (p.sumK Ink.c7 z3) z66)=p.ink.c7))/\A z29/\A (IntKind.u8.wrap (nr z66 z67)=p.soft)))))))))))))))))))))))))))))))))))))))))))))))))))))))))))))))))))))))))))))))))))))))))))))))))))))))))))))))))))))))))))))))))))))))))))))))) (by kernel_rfl) ?_;delta qG qI qM
 simp only [cln];have hu:(p.s-4096) / 2 ^ Int.toNat 13=p.u:=rfl;have hv:(p.t-4096) / 2 ^ Int.toNat 13=p.v:=rfl;have ha:p.s-4096-p.u*2 ^ Int.toNat 13=p.a:=rfl;have hc:p.t-4096-p.v*2 ^ Int.toNat 13=p.c:=rfl;have s0:SmG.mk p.g (p.u+bits BinOp.and IntKind.i64 (Int.ofNat 0) 1) (p.v+Int.ofNat 0 / 2 ^ Int.toNat 1)=p.smk 0:=by kernel_rfl
 have s1:SmG.mk p.g (p.u+bits BinOp.and IntKind.i64 (Int.ofNat 1) 1) (p.v+Int.ofNat 1 / 2 ^ Int.toNat 1)=p.smk 1:=by kernel_rfl
 have s2:SmG.mk p.g (p.u+bits BinOp.and IntKind.i64 (Int.ofNat 2) 1) (p.v+Int.ofNat 2 / 2 ^ Int.toNat 1)=p.smk 2:=by kernel_rfl
 have s3:SmG.mk p.g (p.u+bits BinOp.and IntKind.i64 (Int.ofNat 3) 1) (p.v+Int.ofNat 3 / 2 ^ Int.toNat 1)=p.smk 3:=by kernel_rfl
 have n0:((0:Nat):Int)=0:=rfl;have n1:((1:Nat):Int)=1:=rfl;have n2:((2:Nat):Int)=2:=rfl;have n3:((3:Nat):Int)=3:=rfl;have n4:((4:Nat):Int)=4:=rfl;have sS:∀ (f:Ink->Int) (k:Nat),k<4->p.sumK f k+p.w k*(p.smk k).soft*f (p.smk k).ink=p.sumK f (k+1:Nat):=fun f k hk=>by
  have:=aY9 (fun j=>p.w j*(p.smk j).soft*f (p.smk j).ink)
  match k,hk with
  | 0,_=>exact this.1.1
  | 1,_=>exact this.1.2
  | 2,_=>exact this.2.1
  | 3,_=>exact this.2.2
 have aS:∀ (k:Nat),k<4->p.allK k+p.w k*(p.smk k).soft=p.allK (k+1:Nat):=fun k hk=>by
  have:=aY9 (fun j=>p.w j*(p.smk j).soft)
  match k,hk with
  | 0,_=>exact this.1.1
  | 1,_=>exact this.1.2
  | 2,_=>exact this.2.1
  | 3,_=>exact this.2.2
 have a0:p.allK 0+p.w 0*(p.smk 0).soft=p.allK 1:=aS 0 (by decide);have t00:p.sumK Ink.c0 0+p.w 0*(p.smk 0).soft*(p.smk 0).ink.c0=p.sumK Ink.c0 1:=sS Ink.c0 0 (by decide);have t01:p.sumK Ink.c1 0+p.w 0*(p.smk 0).soft*(p.smk 0).ink.c1=p.sumK Ink.c1 1:=sS Ink.c1 0 (by decide);have t02:p.sumK Ink.c2 0+p.w 0*(p.smk 0).soft*(p.smk 0).ink.c2=p.sumK Ink.c2 1:=sS Ink.c2 0 (by decide);have t03:p.sumK Ink.c3 0+p.w 0*(p.smk 0).soft*(p.smk 0).ink.c3=p.sumK Ink.c3 1:=sS Ink.c3 0 (by decide);have t04:p.sumK Ink.c4 0+p.w 0*(p.smk 0).soft*(p.smk 0).ink.c4=p.sumK Ink.c4 1:=sS Ink.c4 0 (by decide);have t05:p.sumK Ink.c5 0+p.w 0*(p.smk 0).soft*(p.smk 0).ink.c5=p.sumK Ink.c5 1:=sS Ink.c5 0 (by decide);have t06:p.sumK Ink.c6 0+p.w 0*(p.smk 0).soft*(p.smk 0).ink.c6=p.sumK Ink.c6 1:=sS Ink.c6 0 (by decide);have t07:p.sumK Ink.c7 0+p.w 0*(p.smk 0).soft*(p.smk 0).ink.c7=p.sumK Ink.c7 1:=sS Ink.c7 0 (by decide);have a1:p.allK 1+p.w 1*(p.smk 1).soft=p.allK 2:=aS 1 (by decide);have t10:p.sumK Ink.c0 1+p.w 1*(p.smk 1).soft*(p.smk 1).ink.c0=p.sumK Ink.c0 2:=sS Ink.c0 1 (by decide);have t11:p.sumK Ink.c1 1+p.w 1*(p.smk 1).soft*(p.smk 1).ink.c1=p.sumK Ink.c1 2:=sS Ink.c1 1 (by decide);have t12:p.sumK Ink.c2 1+p.w 1*(p.smk 1).soft*(p.smk 1).ink.c2=p.sumK Ink.c2 2:=sS Ink.c2 1 (by decide);have t13:p.sumK Ink.c3 1+p.w 1*(p.smk 1).soft*(p.smk 1).ink.c3=p.sumK Ink.c3 2:=sS Ink.c3 1 (by decide);have t14:p.sumK Ink.c4 1+p.w 1*(p.smk 1).soft*(p.smk 1).ink.c4=p.sumK Ink.c4 2:=sS Ink.c4 1 (by decide);have t15:p.sumK Ink.c5 1+p.w 1*(p.smk 1).soft*(p.smk 1).ink.c5=p.sumK Ink.c5 2:=sS Ink.c5 1 (by decide);have t16:p.sumK Ink.c6 1+p.w 1*(p.smk 1).soft*(p.smk 1).ink.c6=p.sumK Ink.c6 2:=sS Ink.c6 1 (by decide);have t17:p.sumK Ink.c7 1+p.w 1*(p.smk 1).soft*(p.smk 1).ink.c7=p.sumK Ink.c7 2:=sS Ink.c7 1 (by decide);have a2:p.allK 2+p.w 2*(p.smk 2).soft=p.allK 3:=aS 2 (by decide);have t20:p.sumK Ink.c0 2+p.w 2*(p.smk 2).soft*(p.smk 2).ink.c0=p.sumK Ink.c0 3:=sS Ink.c0 2 (by decide);have t21:p.sumK Ink.c1 2+p.w 2*(p.smk 2).soft*(p.smk 2).ink.c1=p.sumK Ink.c1 3:=sS Ink.c1 2 (by decide);have t22:p.sumK Ink.c2 2+p.w 2*(p.smk 2).soft*(p.smk 2).ink.c2=p.sumK Ink.c2 3:=sS Ink.c2 2 (by decide);have t23:p.sumK Ink.c3 2+p.w 2*(p.smk 2).soft*(p.smk 2).ink.c3=p.sumK Ink.c3 3:=sS Ink.c3 2 (by decide);have t24:p.sumK Ink.c4 2+p.w 2*(p.smk 2).soft*(p.smk 2).ink.c4=p.sumK Ink.c4 3:=sS Ink.c4 2 (by decide);have t25:p.sumK Ink.c5 2+p.w 2*(p.smk 2).soft*(p.smk 2).ink.c5=p.sumK Ink.c5 3:=sS Ink.c5 2 (by decide);have t26:p.sumK Ink.c6 2+p.w 2*(p.smk 2).soft*(p.smk 2).ink.c6=p.sumK Ink.c6 3:=sS Ink.c6 2 (by decide);have t27:p.sumK Ink.c7 2+p.w 2*(p.smk 2).soft*(p.smk 2).ink.c7=p.sumK Ink.c7 3:=sS Ink.c7 2 (by decide);have a3:p.allK 3+p.w 3*(p.smk 3).soft=p.allK 4:=aS 3 (by decide);have t30:p.sumK Ink.c0 3+p.w 3*(p.smk 3).soft*(p.smk 3).ink.c0=p.sumK Ink.c0 4:=sS Ink.c0 3 (by decide);have t31:p.sumK Ink.c1 3+p.w 3*(p.smk 3).soft*(p.smk 3).ink.c1=p.sumK Ink.c1 4:=sS Ink.c1 3 (by decide);have t32:p.sumK Ink.c2 3+p.w 3*(p.smk 3).soft*(p.smk 3).ink.c2=p.sumK Ink.c2 4:=sS Ink.c2 3 (by decide);have t33:p.sumK Ink.c3 3+p.w 3*(p.smk 3).soft*(p.smk 3).ink.c3=p.sumK Ink.c3 4:=sS Ink.c3 3 (by decide);have t34:p.sumK Ink.c4 3+p.w 3*(p.smk 3).soft*(p.smk 3).ink.c4=p.sumK Ink.c4 4:=sS Ink.c4 3 (by decide);have t35:p.sumK Ink.c5 3+p.w 3*(p.smk 3).soft*(p.smk 3).ink.c5=p.sumK Ink.c5 4:=sS Ink.c5 3 (by decide);have t36:p.sumK Ink.c6 3+p.w 3*(p.smk 3).soft*(p.smk 3).ink.c6=p.sumK Ink.c6 4:=sS Ink.c6 3 (by decide);have t37:p.sumK Ink.c7 3+p.w 3*(p.smk 3).soft*(p.smk 3).ink.c7=p.sumK Ink.c7 4:=sS Ink.c7 3 (by decide);have q0:∀ k,0<=(p.smk k).ink.c0/\(p.smk k).ink.c0<=255:=fun k=>(ar9 hp k).1.1
 have q1:∀ k,0<=(p.smk k).ink.c1/\(p.smk k).ink.c1<=255:=fun k=>(ar9 hp k).1.2.1
 have q2:∀ k,0<=(p.smk k).ink.c2/\(p.smk k).ink.c2<=255:=fun k=>(ar9 hp k).1.2.2.1
 have q3:∀ k,0<=(p.smk k).ink.c3/\(p.smk k).ink.c3<=255:=fun k=>(ar9 hp k).1.2.2.2
 have q4:∀ k,0<=(p.smk k).ink.c4/\(p.smk k).ink.c4<=255:=fun k=>(ar9 hp k).2.1
 have q5:∀ k,0<=(p.smk k).ink.c5/\(p.smk k).ink.c5<=255:=fun k=>(ar9 hp k).2.2.1
 have q6:∀ k,0<=(p.smk k).ink.c6/\(p.smk k).ink.c6<=255:=fun k=>(ar9 hp k).2.2.2.1
 have q7:∀ k,0<=(p.smk k).ink.c7/\(p.smk k).ink.c7<=255:=fun k=>(ar9 hp k).2.2.2.2
 have hs0:IntKind.u8.wrap (nr (p.allK 4) 67108864)=p.soft:=rfl;simp only [Nat.reduceAdd,hu,hv,ha,hc,s0,s1,s2,s3,n0,n1,n2,n3,n4,a0,a1,a2,a3,t00,t01,t02,t03,t04,t05,t06,t07,t10,t11,t12,t13,t14,t15,t16,t17,t20,t21,t22,t23,t24,t25,t26,t27,t30,t31,t32,t33,t34,t35,t36,t37,hs0,eq_self,xD,xC];have hp':=hp;obtain ⟨_,⟨h1,h2⟩,h3,h4⟩:=hp';have bu : -67108865<=p.u/\p.u<=67108865:=by unfold PtG.u; omega
 have bv : -67108865<=p.v/\p.v<=67108865:=by unfold PtG.v; omega
 have ba:0<=p.a/\p.a<=8191:=by unfold PtG.a PtG.u; omega
 have bc:0<=p.c/\p.c<=8191:=by unfold PtG.c PtG.v; omega
 have w0:(8192-p.a)*(8192-p.c)=p.w 0:=rfl;have w1:p.a*(8192-p.c)=p.w 1:=rfl;have w2:(8192-p.a)*p.c=p.w 2:=rfl;have w3:p.a*p.c=p.w 3:=rfl;have e13:(2:Int) ^ Int.toNat 13=8192:=by kernel_rfl
 simp only [w0,w1,w2,w3,e13,eq_self,xD,xC];have b0:bits BinOp.and IntKind.i64 (Int.ofNat 0) 1=0/\bits BinOp.and IntKind.i64 (Int.ofNat 1) 1=1/\bits BinOp.and IntKind.i64 (Int.ofNat 2) 1=0/\bits BinOp.and IntKind.i64 (Int.ofNat 3) 1=1:=by decide
 have b1:Int.ofNat 0 / 2 ^ Int.toNat 1=0/\Int.ofNat 1 / 2 ^ Int.toNat 1=0/\Int.ofNat 2 / 2 ^ Int.toNat 1=1/\Int.ofNat 3 / 2 ^ Int.toNat 1=1:=by decide
 simp only [b0.1,b0.2.1,b0.2.2.1,b0.2.2.2,b1.1,b1.2.1,b1.2.2.1,b1.2.2.2];clear b0 b1 sS aS hu hv ha hc s0 s1 s2 s3 a0 a1 a2 a3 t00 t01 t02 t03 t04 t05 t06 t07 t10 t11 t12 t13 t14 t15 t16 t17 t20 t21 t22 t23 t24 t25 t26 t27 t30 t31 t32 t33 t34 t35 t36 t37 w0 w1 w2 w3 e13 n0 n1 n2 n3 n4 hs0;have z:∀ {x M:Int}(_:0<=x/\x<=M) (_:M<=17455015526400:=by decide),((-9223372036854775808<=x/\x<=9223372036854775807)=True):=fun h hM=>uF (i64w h hM)
 have ex:∀ k,(∃ g,(aM7 p k).pre g)=True:=fun k=>uF ⟨(),trivial⟩
 have ok4:∀ k,(p.smk k).ok=True:=fun k=>uF (b05 hp k)
 have lit:∀ {a b:Int},decide (a<=b/\b<8)=true->((a<=b/\b < ↑8)=True):=fun h=>uF (xO h)
 simp only [z (aI0 p 0),z (bj8 p 0),z (w_ok (p:=p) 0),z (q0 0),z (ad7 p 0 (q0 0)),z (q1 0),z (ad7 p 0 (q1 0)),z (q2 0),z (ad7 p 0 (q2 0)),z (q3 0),z (ad7 p 0 (q3 0)),z (q4 0),z (ad7 p 0 (q4 0)),z (q5 0),z (ad7 p 0 (q5 0)),z (q6 0),z (ad7 p 0 (q6 0)),z (q7 0),z (ad7 p 0 (q7 0)),z (aI0 p 1),z (bj8 p 1),z (w_ok (p:=p) 1),z (q0 1),z (ad7 p 1 (q0 1)),z (q1 1),z (ad7 p 1 (q1 1)),z (q2 1),z (ad7 p 1 (q2 1)),z (q3 1),z (ad7 p 1 (q3 1)),z (q4 1),z (ad7 p 1 (q4 1)),z (q5 1),z (ad7 p 1 (q5 1)),z (q6 1),z (ad7 p 1 (q6 1)),z (q7 1),z (ad7 p 1 (q7 1)),z (aI0 p 2),z (bj8 p 2),z (w_ok (p:=p) 2),z (q0 2),z (ad7 p 2 (q0 2)),z (q1 2),z (ad7 p 2 (q1 2)),z (q2 2),z (ad7 p 2 (q2 2)),z (q3 2),z (ad7 p 2 (q3 2)),z (q4 2),z (ad7 p 2 (q4 2)),z (q5 2),z (ad7 p 2 (q5 2)),z (q6 2),z (ad7 p 2 (q6 2)),z (q7 2),z (ad7 p 2 (q7 2)),z (aI0 p 3),z (bj8 p 3),z (w_ok (p:=p) 3),z (q0 3),z (ad7 p 3 (q0 3)),z (q1 3),z (ad7 p 3 (q1 3)),z (q2 3),z (ad7 p 3 (q2 3)),z (q3 3),z (ad7 p 3 (q3 3)),z (q4 3),z (ad7 p 3 (q4 3)),z (q5 3),z (ad7 p 3 (q5 3)),z (q6 3),z (ad7 p 3 (q6 3)),z (q7 3),z (ad7 p 3 (q7 3)),z (aw3 p 0),z (ac4 q0 0),z (ac4 q1 0),z (ac4 q2 0),z (ac4 q3 0),z (ac4 q4 0),z (ac4 q5 0),z (ac4 q6 0),z (ac4 q7 0),z (aw3 p 1),z (ac4 q0 1),z (ac4 q1 1),z (ac4 q2 1),z (ac4 q3 1),z (ac4 q4 1),z (ac4 q5 1),z (ac4 q6 1),z (ac4 q7 1),z (aw3 p 2),z (ac4 q0 2),z (ac4 q1 2),z (ac4 q2 2),z (ac4 q3 2),z (ac4 q4 2),z (ac4 q5 2),z (ac4 q6 2),z (ac4 q7 2),z (aw3 p 3),z (ac4 q0 3),z (ac4 q1 3),z (ac4 q2 3),z (ac4 q3 3),z (ac4 q4 3),z (ac4 q5 3),z (ac4 q6 3),z (ac4 q7 3),z (aw3 p 4),z (ac4 q0 4),z (ac4 q1 4),z (ac4 q2 4),z (ac4 q3 4),z (ac4 q4 4),z (ac4 q5 4),z (ac4 q6 4),z (ac4 q7 4),ex,ok4,xD,xC,xp];have hA:=aw3 p 4;have g0:=ac4 q0 4;have g1:=ac4 q1 4;have g2:=ac4 q2 4;have g3:=ac4 q3 4;have g4:=ac4 q4 4;have g5:=ac4 q5 4;have g6:=ac4 q6 4;have g7:=ac4 q7 4;have hpos:p.soft=0\/1<=p.allK 4:=(Classical.em _).imp id bX6;have i0:p.soft=0->p.ink=⟨0,0,0,0,0,0,0,0⟩:=ink0;have i1:p.soft≠0->p.ink=⟨p.mix Ink.c0,p.mix Ink.c1,p.mix Ink.c2,p.mix Ink.c3,p.mix Ink.c4,p.mix Ink.c5,p.mix Ink.c6,p.mix Ink.c7⟩:=ink1;clear q0 q1 q2 q3 q4 q5 q6 q7 z ex ok4 lit hp;repeat' (first
  | refine And.intro ?_ ?_
  | intro _
  | (with_reducible exact rfl)
  | omega
  | (rw [i0 ‹_›])
  | (rw [i1 ‹_›]; exact rfl)
  | exact rfl
  | decide
  | exact ⟨(),trivial⟩)
end Imp
set_option linter.unusedSimpArgs false
set_option linter.unusedVariables false
namespace Imq
open Lsg
open Go.RowKit Sx Num Aff Afi Img Imh Imp
set_option maxRecDepth 100000
structure AtG where
 g:ImgG
 b:Mat
 x:Int
 y:Int
def AtG.s (q:AtG):Int:=q.b.a*(2*q.x+1)+q.b.c*(2*q.y+1)+2*q.b.e
def AtG.t (q:AtG):Int:=q.b.b*(2*q.x+1)+q.b.d*(2*q.y+1)+2*q.b.f
def AtG.pt (q:AtG):PtG:=⟨q.g,q.b,q.s,q.t⟩
def AtG.sm (q:AtG):SmG:=⟨q.g,q.s / 8192,q.t / 8192⟩
def AtG.ink (q:AtG):Ink:=bif q.g.smooth then q.pt.ink else q.sm.ink
def AtG.soft (q:AtG):Int:=bif q.g.smooth then q.pt.soft else q.sm.soft
def small (M z:Int):Prop:= -M<=z/\z<=M
def AtG.ok (q:AtG):Prop:=(q.g.ok/\∀ i,i<q.g.n->ao0 (q.g.px i))/\((-8192<=q.x/\q.x<8192)/\ -8192<=q.y/\q.y<8192)/\(small 1048576 q.b.a/\small 1048576 q.b.b/\small 1048576 q.b.c/\small 1048576 q.b.d)/\small 137438953472 q.b.e/\small 137438953472 q.b.f
theorem ak2 {M N:Nat}{a b:Int}(ha:small M a) (hb:small N b):small ((M*N:Nat):Int) (a*b):=by
 obtain ⟨a1,a2⟩:=ha;obtain ⟨b1,b2⟩:=hb;have h:=ui (show a.natAbs<=M by omega) (show b.natAbs<=N by omega);rw [<-Int.natAbs_mul] at h;exact ⟨by omega,by omega⟩
theorem at_pt {q:AtG}(h:q.ok):q.pt.ok/\q.sm.ok:=by
 obtain ⟨h0,⟨⟨x1,x2⟩,y1,y2⟩,⟨ha,hb,hc,hd⟩,⟨e1,e2⟩,f1,f2⟩:=h;have X:small 16385 (2*q.x+1):=⟨by omega,by omega⟩
 have Y:small 16385 (2*q.y+1):=⟨by omega,by omega⟩
 obtain ⟨r1,r2⟩:=ak2 (M:=1048576) (N:=16385) ha X;obtain ⟨r3,r4⟩:=ak2 (M:=1048576) (N:=16385) hc Y;obtain ⟨r5,r6⟩:=ak2 (M:=1048576) (N:=16385) hb X;obtain ⟨r7,r8⟩:=ak2 (M:=1048576) (N:=16385) hd Y;have hs : -549755813888<=q.s/\q.s<=549755813888:=by unfold AtG.s; omega
 have ht : -549755813888<=q.t/\q.t<=549755813888:=by unfold AtG.t; omega
 exact ⟨⟨h0,hs,ht⟩,h0.1,by show _<=q.s / 8192/\q.s / 8192<=_; omega,by show _<=q.t / 8192/\q.t / 8192<=_; omega⟩
theorem am0 {f k:Ink}{a b:Int}(h:f=k/\a=b):(((((((f.c0=k.c0/\f.c1=k.c1)/\f.c2=k.c2)/\f.c3=k.c3)/\f.c4=k.c4)/\f.c5=k.c5)/\f.c6=k.c6)/\f.c7=k.c7)/\a=b:=by
 rw [h.1]; exact ⟨⟨⟨⟨⟨⟨⟨⟨rfl,rfl⟩,rfl⟩,rfl⟩,rfl⟩,rfl⟩,rfl⟩,rfl⟩,h.2⟩
def bZ5:FSpec:=aa3 81 (γ:=AtG) (fun | [.agg _ g,.int _ x,.int _ y]=>some ⟨imgD g,matD (shD g 12),x,y⟩ | _=>none) (fun q=>[paiS q.g q.b,.int .i64 q.x,.int .i64 q.y]) AtG.ok (fun q=> .tup 2 (lst [.agg 8 (lst (inkL q.ink)),.int .u8 q.soft]))
theorem b26:aa2 Tryz.prog bZ5:=by
 refine ssW (specs:=[be5,aS8]) (⟨bv4,aZ3,trivial⟩) Tryz.func81 (fun g=>A0) ?_;rintro q hq;refine ab2 (B:=let T4:=fun p:Prop=>True/\True/\True/\True/\p;let J:=Int.toNat;let K:=IntKind.i64;let A:=Sx.Ask;let z14:=(13:Int);let z11:=((0:Int)<=z14/\z14<=(↑K.bits:Int));let z10:=(K=K);let q10:=fun p:Int=>A z10/\A (p=p);let z7:=(2:Int);let z6:=(IntKind.u8=IntKind.u8);let z5:=(9223372036854775807:Int);let z4:=(-9223372036854775808:Int);let z13:=(z4<=z7*q.y+(1:Int)/\z7*q.y+(1:Int)<=z5);let z12:=(z4<=z7*q.x+(1:Int)/\z7*q.x+(1:Int)<=z5);let z3:=(z7*q.y+(1:Int));let z2:=(z7*q.x+(1:Int));let z9:=(q.b.b*z2+q.b.d*z3+z7*q.b.f);let z8:=(q.b.a*z2+q.b.c*z3+z7*q.b.e);let z1:=(Go.Proofs.YthappngbapbkfaaGreat.Imp.PtG.mk q.g q.b z8 z9);let z0:=(Go.Proofs.YthappngbapbkfaaGreat.Img.SmG.mk q.g (z8 / z7 ^ J z14) (z9 / z7 ^ J z14));T4 (T4 (True/\True/\A (z4<=z7*q.x/\z7*q.x<=z5)/\A z12/\A (z4<=q.b.a*z2/\q.b.a*z2<=z5)/\True/\True/\True/\A (z4<=z7*q.y/\z7*q.y<=z5)/\A z13/\A (z4<=q.b.c*z3/\q.b.c*z3<=z5)/\A (z4<=q.b.a*z2+q.b.c*z3/\q.b.a*z2+q.b.c*z3<=z5)/\True/\True/\A (z4<=z7*q.b.e/\z7*q.b.e<=z5)/\A (z4<=q.b.a*z2+q.b.c*z3+z7*q.b.e/\q.b.a*z2+q.b.c*z3+z7*q.b.e<=z5)/\T4 (A (z4<=z7*q.x/\z7*q.x<=z5)/\A z12/\A (z4<=q.b.b*z2/\q.b.b*z2<=z5)/\True/\True/\True/\A (z4<=z7*q.y/\z7*q.y<=z5)/\A z13/\A (z4<=q.b.d*z3/\q.b.d*z3<=z5)/\A (z4<=q.b.b*z2+q.b.d*z3/\q.b.b*z2+q.b.d*z3<=z5)/\True/\True/\A (z4<=z7*q.b.f/\z7*q.b.f<=z5)/\A (z4<=q.b.b*z2+q.b.d*z3+z7*q.b.f/\q.b.b*z2+q.b.d*z3+z7*q.b.f<=z5)/\T4 (Br q.g.smooth (True/\True/\True/\(((qM (qG True q.g q.g) q.b q.b)/\(q10 (q.b.a*z2+q.b.c*z3+z7*q.b.e))/\(q10 (q.b.b*z2+q.b.d*z3+z7*q.b.f))/\True)/\A z1.ok)/\T4 ((True/\True)/\(True/\(((((((True/\A z6/\A (z1.ink.c0=q.ink.c0))/\A z6/\A (z1.ink.c1=q.ink.c1))/\A z6/\A (z1.ink.c2=q.ink.c2))/\A z6/\A (z1.ink.c3=q.ink.c3))/\A z6/\A (z1.ink.c4=q.ink.c4))/\A z6/\A (z1.ink.c5=q.ink.c5))/\A z6/\A (z1.ink.c6=q.ink.c6))/\A z6/\A (z1.ink.c7=q.ink.c7))/\A z6/\A (z1.soft=q.soft))) (True/\True/\True/\A z11/\True/\A z11/\(((qG True q.g q.g)/\(q10 (z8 / z7 ^ J z14))/\(q10 (z9 / z7 ^ J z14))/\True)/\A z0.ok)/\T4 ((True/\True)/\(True/\(((((((True/\A z6/\A (z0.ink.c0=q.ink.c0))/\A z6/\A (z0.ink.c1=q.ink.c1))/\A z6/\A (z0.ink.c2=q.ink.c2))/\A z6/\A (z0.ink.c3=q.ink.c3))/\A z6/\A (z0.ink.c4=q.ink.c4))/\A z6/\A (z0.ink.c5=q.ink.c5))/\A z6/\A (z0.ink.c6=q.ink.c6))/\A z6/\A (z0.ink.c7=q.ink.c7))/\A z6/\A (z0.soft=q.soft)))))))) (by kernel_rfl) ?_;delta qG qI qM
 simp only [cln];have hok:=at_pt hq;obtain ⟨h0,⟨⟨x1,x2⟩,y1,y2⟩,⟨ha,hb,hc,hd⟩,⟨e1,e2⟩,f1,f2⟩:=id hq;have X:small 16385 (2*q.x+1):=⟨by omega,by omega⟩
 have Y:small 16385 (2*q.y+1):=⟨by omega,by omega⟩
 obtain ⟨r1,r2⟩:=ak2 (M:=1048576) (N:=16385) ha X;obtain ⟨r3,r4⟩:=ak2 (M:=1048576) (N:=16385) hc Y;obtain ⟨r5,r6⟩:=ak2 (M:=1048576) (N:=16385) hb X;obtain ⟨r7,r8⟩:=ak2 (M:=1048576) (N:=16385) hd Y;generalize hA:q.b.a*(2*q.x+1)=A at r1 r2 ⊢;generalize hB:q.b.c*(2*q.y+1)=B at r3 r4 ⊢;generalize hC:q.b.b*(2*q.x+1)=C at r5 r6 ⊢;generalize hD:q.b.d*(2*q.y+1)=D at r7 r8 ⊢;have s1:A+B+2*q.b.e=q.s:=by rw [<-hA,<-hB]; rfl
 have s2:C+D+2*q.b.f=q.t:=by rw [<-hC,<-hD]; rfl
 refine ⟨by omega,by omega,by omega,by omega,by omega,by omega,by omega,by omega,by omega,by omega,by omega,by omega,by omega,by omega,by omega,by omega,by omega,by omega,fun hs=>?_,fun hs=>⟨by decide,by decide,?_⟩⟩
 ·rw [s1,s2];exact ⟨hok.1,am0 (by unfold AtG.ink AtG.soft; rw [hs]; exact ⟨rfl,rfl⟩)⟩
 ·rw [s1,s2];exact ⟨hok.2,am0 (by unfold AtG.ink AtG.soft; rw [hs]; exact ⟨rfl,rfl⟩)⟩
structure ImAt where
 g:ImgG
 x:Int
 y:Int
def ImAt.q (a:ImAt):AtG:=⟨a.g,invM a.g.m,a.x,a.y⟩
end Imq
set_option linter.unusedSimpArgs false
set_option linter.unusedVariables false
namespace Lsc
open Go.RowKit Sx Num Aff Afi Img Imh Imp Imq Rga Blend Ble Lsg Lta Lrd Lri Luc Lck Lgr Lcs Lst Lch Lcl Lgp
set_option maxRecDepth 100000
def xyOK (x y:Int):Prop:=(-8192<=x/\x<8192)/\ -8192<=y/\y<8192
structure SrcOK (s:Src):Prop where
 ink:u8i s.ink
 grad:s.kind≠0->s.kind≠3->grE s=0/\∀ i,i<s.ns->u8i (s.st i).ink
 img:s.kind=3->s.img.chk=0/\(∀ i,i<s.img.n->ao0 (s.img.px i))/\∀ i,i<s.img.sn->0<=s.img.sf i/\s.img.sf i<=255
def Src.q (s:Src) (x y:Int):AtG:=⟨s.img,invM s.img.m,x,y⟩
def z8:Ink:=⟨0,0,0,0,0,0,0,0⟩
def Src.iI (s:Src) (x y:Int):Ink:=if (Src.q s x y).soft=0 then z8 else (Src.q s x y).ink
def Src.at (s:Src) (x y:Int):Ink:=if s.kind=0 then s.ink else if s.kind=3 then Src.iI s x y else (PlG.mk s x y).rm.res
def Src.al (s:Src) (x y:Int):Int:=if s.kind=3 then (Src.q s x y).soft else 255
structure ScG where
 s:Src
 x:Int
 y:Int
def spS0:FSpec:=aa3 79 (γ:=ScG) (fun | [.int _ x,.int _ y,.ref _ g]=>some ⟨srcD g,x,y⟩ | _=>none) (fun g=>[.int .i64 g.x,.int .i64 g.y,.ref 27 (lst (srcL g.s))]) (fun g=>g.s.kind=0) (fun g=> .tup 2 (lst [.agg 8 (lst (inkL (Src.at g.s g.x g.y))),.int .u8 (Src.al g.s g.x g.y)]))
theorem b42:aa2 Tryz.prog spS0:=by
 refine ssW (specs:=[]) trivial Tryz.func79 (fun g=>A0) ?_;rintro g hg;refine ab2 (B:=let A:=Sx.Ask;let z1:=(Src.at g.s g.x g.y);let z0:=(IntKind.u8=IntKind.u8);True/\True/\True/\True/\True/\True/\(True/\True)/\(True/\(((((((True/\A z0/\A (g.s.ink.c0=z1.c0))/\A z0/\A (g.s.ink.c1=z1.c1))/\A z0/\A (g.s.ink.c2=z1.c2))/\A z0/\A (g.s.ink.c3=z1.c3))/\A z0/\A (g.s.ink.c4=z1.c4))/\A z0/\A (g.s.ink.c5=z1.c5))/\A z0/\A (g.s.ink.c6=z1.c6))/\A z0/\A (g.s.ink.c7=z1.c7))/\A z0/\A ((255:Int)=Src.al g.s g.x g.y)) (by kernel_rfl) ?_;simp only [cln];have e:Src.at g.s g.x g.y=g.s.ink:=lg hg;have e2:Src.al g.s g.x g.y=255:=lb (by rw [hg]; decide);rw [e,e2];exact am0 ⟨rfl,rfl⟩
def bQ0:FSpec:=aa3 83 (γ:=ScG) (fun | [.int _ x,.int _ y,.ref _ g]=>some ⟨srcD g,x,y⟩ | _=>none) (fun g=>[.int .i64 g.x,.int .i64 g.y,.ref 27 (lst (srcL g.s))]) (fun g=>(g.s.kind≠0/\g.s.kind≠3)/\SrcOK g.s/\xyOK g.x g.y) (fun g=> .tup 2 (lst [.agg 8 (lst (inkL (Src.at g.s g.x g.y))),.int .u8 (Src.al g.s g.x g.y)]))
theorem bN1:aa2 Tryz.prog bQ0:=by
 refine ssW (specs:=[be8]) (⟨bw0,trivial⟩) Tryz.func83 (fun g=>A0) ?_;rintro g hg;refine ab2 (B:=let K:=IntKind.i64;let A:=Sx.Ask;let z2:=(Src.at g.s g.x g.y);let z1:=(PlG.mk g.s g.x g.y);let z0:=(IntKind.u8=IntKind.u8);True/\True/\True/\True/\True/\(((qS True g.s g.s)/\(A (K=K)/\A (g.x=g.x))/\(A (K=K)/\A (g.y=g.y))/\True)/\A z1.okP)/\True/\True/\(True/\True)/\(True/\(((((((True/\A z0/\A (z1.rm.res.c0=z2.c0))/\A z0/\A (z1.rm.res.c1=z2.c1))/\A z0/\A (z1.rm.res.c2=z2.c2))/\A z0/\A (z1.rm.res.c3=z2.c3))/\A z0/\A (z1.rm.res.c4=z2.c4))/\A z0/\A (z1.rm.res.c5=z2.c5))/\A z0/\A (z1.rm.res.c6=z2.c6))/\A z0/\A (z1.rm.res.c7=z2.c7))/\A z0/\A ((255:Int)=Src.al g.s g.x g.y)) (by kernel_rfl) ?_;delta qG qI qM qS
 simp only [cln];obtain ⟨⟨h0,h3⟩,hs,hxy⟩:=hg;have e:Src.at g.s g.x g.y=(PlG.mk g.s g.x g.y).rm.res:=by unfold Src.at; rw [lb h0,lb h3]
 have e2:Src.al g.s g.x g.y=255:=lb h3;rw [e,e2];exact ⟨⟨⟨(hs.grad h0 h3).1,hxy⟩,(hs.grad h0 h3).2⟩,am0 ⟨rfl,rfl⟩⟩
def by4:SV->ImgG
 | .fnb _ _ g=>match g 0 with
  | .agg _ h=>imgD h
  | _=>imgD (fun _=> .any)
 | _=>imgD (fun _=> .any)
structure SiG where
 m:ImgG
 x:Int
 y:Int
def SiG.q (g:SiG):AtG:=⟨g.m,invM g.m.m,g.x,g.y⟩
def spS3:FSpec:=aa3 82 (γ:=SiG) (fun | [.int _ x,.int _ y,.ref _ g]=>some ⟨by4 (g 0),x,y⟩ | _=>none) (fun g=>[.int .i64 g.x,.int .i64 g.y,.ref 1 (lst [atS g.m])]) (fun g=>g.q.ok) (fun g=> .tup 2 (lst [.agg 8 (lst (inkL (if g.q.soft=0 then z8 else g.q.ink))),.int .u8 g.q.soft]))
theorem b41:aa2 Tryz.prog spS3:=by
 refine ssW (specs:=[bZ5]) (⟨b26,trivial⟩) Tryz.func82 (fun g=>A0) ?_;rintro g hg;refine ab2 (B:=let K:=IntKind.i64;let A:=Sx.Ask;let z3:=(0:Int);let z2:=(IntKind.u8=IntKind.u8);let z1:=(Imq.AtG.mk g.m (invM g.m.m) g.x g.y);let z0:=(if g.q.soft=z3 then z8 else g.q.ink);True/\True/\True/\True/\True/\(((qM (qG True g.m g.m) (invM g.m.m) (invM g.m.m))/\(A (K=K)/\A (g.x=g.x))/\(A (K=K)/\A (g.y=g.y))/\True)/\A z1.ok)/\True/\True/\True/\True/\True/\True/\True/\True/\Br (decide (z1.soft=z3)) (True/\True/\True/\True/\True/\True/\(True/\True)/\(True/\(((((((True/\A z2/\A (z3=z0.c0))/\A z2/\A (z3=z0.c1))/\A z2/\A (z3=z0.c2))/\A z2/\A (z3=z0.c3))/\A z2/\A (z3=z0.c4))/\A z2/\A (z3=z0.c5))/\A z2/\A (z3=z0.c6))/\A z2/\A (z3=z0.c7))/\A z2/\A (z1.soft=g.q.soft)) (True/\True/\True/\True/\(True/\True)/\(True/\(((((((True/\A z2/\A (z1.ink.c0=z0.c0))/\A z2/\A (z1.ink.c1=z0.c1))/\A z2/\A (z1.ink.c2=z0.c2))/\A z2/\A (z1.ink.c3=z0.c3))/\A z2/\A (z1.ink.c4=z0.c4))/\A z2/\A (z1.ink.c5=z0.c5))/\A z2/\A (z1.ink.c6=z0.c6))/\A z2/\A (z1.ink.c7=z0.c7))/\A z2/\A (z1.soft=g.q.soft))) (by kernel_rfl) ?_;delta qG qI qM
 simp only [cln];refine ⟨hg,fun h=>?_,fun h=>?_⟩
 ·rw [lg (show g.q.soft=0 from h)];exact am0 (f:=z8) ⟨rfl,rfl⟩
 ·rw [lb (show ¬ g.q.soft=0 from h)];exact am0 ⟨rfl,rfl⟩
theorem b62 {g:ImgG}(h:g.chk=0) (hs:∀ i,i<g.sn->0<=g.sf i/\g.sf i<=255):g.ok/\invE g.m=0:=by
 unfold ImgG.chk at h;split at h
 ·omega
 split at h
 ·omega
 rename_i h1 h2;exact ⟨⟨⟨⟨by omega,by omega⟩,by omega,by omega⟩,by omega,by omega,hs⟩,h⟩
theorem bX5 {s:Src}(h:SrcOK s) (hk:s.kind=3) {x y:Int}(hxy:xyOK x y):(Src.q s x y).ok:=by
 obtain ⟨h1,h2,h3⟩:=h.img hk;obtain ⟨g1,g2⟩:=b62 h1 h3;obtain ⟨_,_,i1,i2⟩:=b60 g2;obtain ⟨a,b,c,d,e,f⟩:=Mat.b31 i1;refine ⟨⟨g1,h2⟩,hxy,?_,?_,?_⟩<;>(show _; unfold small Src.q; simp only; rw [i2]; omega)
theorem b15 (p:Imp.PtG):ao0 p.ink:=by
 unfold Imp.PtG.ink;split
 ·unfold ao0; simp
 ·exact ⟨⟨ar4 _,ar4 _,ar4 _,ar4 _⟩,ar4 _,ar4 _,ar4 _,ar4 _⟩
theorem bQ4 (s:SmG):0<=s.soft/\s.soft<=255:=by
 unfold SmG.soft;cases s.out
 ·rw [xm]; split<;>omega
 ·rw [xK]; decide
theorem q_u8 {q:AtG}(h:q.ok):ao0 q.ink/\0<=q.soft/\q.soft<=255:=by
 unfold AtG.ink AtG.soft;cases q.g.smooth
 ·exact ⟨bO4 (s:=q.sm) h.1.1 h.1.2,bQ4 _⟩
 ·exact ⟨b15 _,ar4 _⟩
theorem aH4 {s:Src}(h:SrcOK s) {x y:Int}(hxy:xyOK x y):ao0 (Src.at s x y)/\0<=Src.al s x y/\Src.al s x y<=255:=by
 unfold Src.at Src.al;split
 ·rename_i h0;rw [lb (by omega)];exact ⟨h.ink,by decide,by decide⟩
 ·rename_i h0;split
  ·rename_i h3;have:=q_u8 (bX5 h h3 hxy)
   refine ⟨?_,this.2⟩;unfold Src.iI;split
   ·unfold ao0 z8; simp
   ·exact this.1
  ·rename_i h3;exact ⟨bR0 (PlG.b07 ⟨⟨(h.grad h0 h3).1,hxy⟩,(h.grad h0 h3).2⟩),by decide,by decide⟩
end Lsc
set_option linter.unusedSimpArgs false
set_option linter.unusedVariables false
namespace Cmp
open Go.RowKit Sx Num Aff Blend Ble
set_option maxRecDepth 100000
abbrev eqC:List (TypeId×List CK):=[(28,[.int,.int,.int,.int,.int,.int,.int,.int]),(96,[.int,.int,.int,.int,.int,.int,.int,.int,.int])]
theorem bA7:bd4 Tryz.prog eqC:=⟨aw1 (m:=8) (by kernel_rfl) (by kernel_rfl) rfl (by decide) (by kernel_rfl),aw1 (m:=9) (by kernel_rfl) (by kernel_rfl) rfl (by decide) (by kernel_rfl),trivial⟩
def u8S (n:Nat) (s:Nat->Int):SV:= .agg n (fun j=> .int .u8 (s j))
def rowOf:SV->Nat->Int
 | .agg _ g=>fun j=>Sx.intOf (g j)
 | _=>fun _=>0
def isU8 (s:Nat->Int):Prop:=∀ j,0<=s j/\s j<=255
def ad5 (j:Nat):Int:=if j=0 then 255 else 0
def a84:FSpec:=aa3 40 (γ:=Unit) (fun _=>some ()) (fun _=>[]) (fun _=>True) (fun _=>u8S 9 ad5)
theorem bG0:aa2 Tryz.prog a84:=by
 refine seW (specs:=[]) trivial (eqs:=eqC) bA7 Tryz.func40 (fun g=>A0) ?_;intro _ _;refine ab2 (B:=let A:=Sx.Ask;let z1:=(0:Int);let z0:=(IntKind.u8=IntKind.u8);True/\True/\True/\(True/\True)/\((((((((True/\A z0/\A ((255:Int)=ad5 (0:Nat)))/\A z0/\A (z1=ad5 (1:Nat)))/\A z0/\A (z1=ad5 (2:Nat)))/\A z0/\A (z1=ad5 (3:Nat)))/\A z0/\A (z1=ad5 (4:Nat)))/\A z0/\A (z1=ad5 (5:Nat)))/\A z0/\A (z1=ad5 (6:Nat)))/\A z0/\A (z1=ad5 (7:Nat)))/\A z0/\A (z1=ad5 (8:Nat))) (by kernel_rfl) ?_;simp [ac9,ae4,ad5]
structure PaintG where
 s:Nat->Int
 ink:Nat->Int
 q:Int
 F:Nat
 over:Bool
def PaintG.all (g:PaintG):Int:=255*(g.s 0+g.q)-g.s 0*g.q
def PaintG.mix (g:PaintG) (i:Nat):Int:=255-ak8 g.F (255-g.s (1+i)) (255-g.ink i)
def PaintG.new (g:PaintG) (i:Nat):Int:=
 if (g.over&&(decide (g.ink i=0)&&decide (g.s 0>0)))=true then g.s (1+i)
 else nr ((255-g.q)*g.s 0*g.s (1+i)+g.q*((255-g.s 0)*g.ink i+g.s 0*g.mix i)) g.all
def PaintG.res (g:PaintG) (j:Nat):Int:=if g.all=0 then 0 else if j=0 then nr g.all 255 else g.new (j-1)
def PaintG.at (g:PaintG) (i:Int) (j:Nat):Int:=if j=0 then nr g.all 255 else if (j:Int)<=i then g.new (j-1) else 0
def aT5 (g:PaintG):Inv:=⟨Int,fun i=>0<=i/\i<=8,
 fun i=>⟨[(3,bh3 g.F),(4,.bool g.over),(6,.own 1 0),(10,.own 2 0),(11,.int .i64 (g.s 0)),(12,.int .i64 g.q),(13,.int .i64 g.all),(14,.own 3 0),(39,.agg 8 (fun j=> .int .u8 (g.s (1+j)))),(40,.int .i64 i)],
  [.dead,.cells 8 (fun j=> .int .u8 (g.ink j)) 28,.cells 9 (fun _=> .any) 96,.cells 9 (fun j=> .int .u8 (g.at i j)) 96]⟩,
 fun i=>(8-i).toNat⟩
def PaintG.ok (g:PaintG):Prop:=(isU8 g.s/\isU8 g.ink)/\(0<=g.q/\g.q<=255)/\aP9 g.F
def aH7:FSpec:=aa3 65 (γ:=PaintG) (fun | [x,y,.int _ q,m,o]=>some ⟨rowOf x,rowOf y,q,fnD (caps (caps (caps (caps m 0) 0) 0) 0),au7 o⟩ | _=>none)
 (fun g=>[u8S 9 g.s,u8S 8 g.ink,.int .u8 g.q,bh3 g.F,.bool g.over]) PaintG.ok (fun g=>u8S 9 g.res)
theorem bX4 (g:PaintG) (i:Int) (hi:0<=i) (v:Int) (hv:v=g.new i.toNat) (j:Nat) :
  (bif decide (1+i.toNat<=j/\j<1+i.toNat+1) then v else g.at i j)=g.at (i+1) j:=by
 subst hv;by_cases hj:j=1+i.toNat
 ·have hd:decide (1+i.toNat<=j/\j<1+i.toNat+1)=true:=lk (by omega);rw [hd];have e:j-1=i.toNat:=by omega
  show g.new i.toNat=g.at (i+1) j;unfold PaintG.at;rw [lb (by omega),lg (by omega),e]
 ·have hd:decide (1+i.toNat<=j/\j<1+i.toNat+1)=false:=li (by omega);rw [hd];simp only [xm];unfold PaintG.at;by_cases h0:j=0
  ·rw [lg h0,lg h0]
  ·rw [lb h0,lb h0];by_cases h1:(j:Int)<=i
   ·rw [lg h1,lg (by omega)]
   ·rw [lb h1,lb (by omega)]
theorem aZ1 {a q c k m:Int}(ha:0<=a/\a<=255) (hq:0<=q/\q<=255) (hc:0<=c/\c<=255) (hk:0<=k/\k<=255) (hm:0<=m/\m<=255) :
  (0<=255*(a+q)-a*q/\255*(a+q)-a*q<=65025)/\0<=(255-q)*a*c+q*((255-a)*k+a*m)/\(255-q)*a*c+q*((255-a)*k+a*m)<=255*(255*(a+q)-a*q):=by
 have e1:255*(a+q)-a*q=(255-q)*a+255*q:=by grind
 have a0:0<=(255-q)*a:=lQ (by omega) ha.1;have a1:(255-q)*a<=(255-q)*255:=lE ha.2 (by omega);have b0:0<=(255-q)*a*c:=lQ a0 hc.1;have b1:(255-q)*a*c<=(255-q)*a*255:=lE hc.2 a0;have c0:0<=(255-a)*k:=lQ (by omega) hk.1;have c1:(255-a)*k<=(255-a)*255:=lE hk.2 (by omega);have d0:0<=a*m:=lQ ha.1 hm.1;have d1:a*m<=a*255:=lE hm.2 ha.1;have f0:0<=q*((255-a)*k+a*m):=lQ hq.1 (by omega);have f1:q*((255-a)*k+a*m)<=q*65025:=lE (by omega) hq.1;omega
theorem bm2 {a q c k m:Int}(ha:0<=a/\a<=255) (hq:0<=q/\q<=255) (hc:0<=c/\c<=255) (hk:0<=k/\k<=255) (hm:0<=m/\m<=255) :
  (0<=(255-q)*a/\(255-q)*a<=65025)/\(0<=(255-q)*a*c/\(255-q)*a*c<=16581375)/\(0<=(255-a)*k/\(255-a)*k<=65025)/\(0<=a*m/\a*m<=65025)/\(0<=q*((255-a)*k+a*m)/\q*((255-a)*k+a*m)<=33162750):=by
 have a0:0<=(255-q)*a:=lQ (by omega) ha.1;have a1:(255-q)*a<=(255-q)*255:=lE ha.2 (by omega);have b0:0<=(255-q)*a*c:=lQ a0 hc.1;have b1:(255-q)*a*c<=(255-q)*a*255:=lE hc.2 a0;have c0:0<=(255-a)*k:=lQ (by omega) hk.1;have c1:(255-a)*k<=(255-a)*255:=lE hk.2 (by omega);have d0:0<=a*m:=lQ ha.1 hm.1;have d1:a*m<=a*255:=lE hm.2 ha.1;have f0:0<=q*((255-a)*k+a*m):=lQ hq.1 (by omega);have f1:q*((255-a)*k+a*m)<=q*130050:=lE (by omega) hq.1;omega
structure PaintF (g:PaintG):Prop where
 a:0<=g.s 0/\g.s 0<=255
 mix:∀ i,0<=g.mix i/\g.mix i<=255
 all:0<=g.all/\g.all<=65025
 sum:∀ i,0<=(255-g.q)*g.s 0*g.s (1+i)+g.q*((255-g.s 0)*g.ink i+g.s 0*g.mix i)/\(255-g.q)*g.s 0*g.s (1+i)+g.q*((255-g.s 0)*g.ink i+g.s 0*g.mix i)<=255*g.all
 al:0<=nr g.all 255/\nr g.all 255<=255
theorem PaintG.ok.facts {g:PaintG}(h:g.ok):PaintF g:=by
 obtain ⟨⟨hs,hi⟩,⟨hq,hq'⟩,hF⟩:=h;have ha:=hs 0;have hmix:∀ i,0<=g.mix i/\g.mix i<=255:=fun i=>by
  have h1:=hs (1+i);have h2:=hi i;have:=aD4 hF (b:=255-g.s (1+i)) (s:=255-g.ink i) (by omega) (by omega) (by omega) (by omega)
  unfold PaintG.mix;omega
 have hb:=fun i=>aZ1 ha ⟨hq,hq'⟩ (hs (1+i)) (hi i) (hmix i)
 exact ⟨ha,hmix,(hb 0).1,fun i=>(hb i).2,ai4 (by omega) (hb 0).1.1 (by have:=(hb 0).1.2; unfold PaintG.all; omega)⟩
theorem bG9 (g:PaintG) (k:Nat) (h1:g.over=true) (h2:decide (g.ink k=0)=true) (h3:decide (0<g.s 0)=true):g.s (1+k)=g.new k:=by
 unfold PaintG.new;rw [h1,h2,lg];simpa using h3
theorem a99 (g:PaintG) (hf:PaintF g) (h0:g.all≠0) (k:Nat) (h:g.over=false\/decide (g.ink k=0)=false\/decide (0<g.s 0)=false) :
  IntKind.u8.wrap (nr ((255-g.q)*g.s 0*g.s (1+k)+g.q*((255-g.s 0)*g.ink k+g.s 0*g.mix k)) g.all)=g.new k:=by
 have hr:=ai4 (a:=(255-g.q)*g.s 0*g.s (1+k)+g.q*((255-g.s 0)*g.ink k+g.s 0*g.mix k)) (b:=g.all) (by have:=hf.all; omega) (hf.sum k).1 (hf.sum k).2;have e:PaintG.new g k=nr ((255-g.q)*g.s 0*g.s (1+k)+g.q*((255-g.s 0)*g.ink k+g.s 0*g.mix k)) g.all:=by
  unfold PaintG.new;rw [lb];rcases h with h | h | h
  ·rw [h]; simp
  ·rw [h]; simp
  ·simp at h; simp; omega
 rw [e];exact u8w hr.1 hr.2
theorem aF7:aa2 Tryz.prog aH7:=by
 refine seW (specs:=[aH8,bs9]) (⟨aA9,bG4,trivial⟩) (eqs:=eqC) bA7 Tryz.func65 (fun g=>(⟨[(7,.inv (aT5 g))],[]⟩:Ann)) ?_;intro g hg;have hf:=hg.facts;obtain ⟨⟨hs,hi⟩,⟨hq,hq'⟩,hF⟩:=hg;have ha:=hf.a;have e1:255*(g.s 0+g.q)-g.s 0*g.q=g.all:=rfl;have hall:=hf.all;refine ab2 (B:=let T2:=fun p:Prop=>True/\True/\p;let T3:=fun p:Prop=>True/\True/\True/\p;let K:=Br;let A:=Sx.Ask;let z72:=(1:Int);let z71:=(112:Go.FuncId);let z68:=(g.over=g.over);let z62:=(8:Nat);let z54:=(4611686018427387904:Int);let z48:=(7:Nat);let z47:=(6:Nat);let z46:=(5:Nat);let z45:=(4:Nat);let z44:=(3:Nat);let z43:=(2:Nat);let z41:=(aT5 g);let z39:=(0:Int);let z18:=(((((((((True/\True)/\True)/\True)/\True)/\True)/\True)/\True)/\True)/\True);let z14:=(IntKind.i64=IntKind.i64);let q14:=fun p:Int=>A z14/\A (p=p);let z38:=(q14 g.q);let z35:=(q14 g.all);let z13:=(A ((86:Go.FuncId)=(86:Go.FuncId))/\T2 (A (z71=z71)/\T2 (A (g.F=g.F)/\True)));let z12:=(255:Int);let z51:=(z12-g.q);let z9:=(9223372036854775807:Int);let z8:=(-9223372036854775808:Int);let z65:=(z8<=z12-g.q/\z12-g.q<=z9);let z5:=(0:Nat);let z70:=(z12-g.s z5);let z53:=(z8<=z12-g.s z5/\z12-g.s z5<=z9);let z52:=(z5=z5);let z49:=(z5+z5);let z42:=(z8<=z51*g.s z5/\z51*g.s z5<=z9);let z40:=(q14 (g.s z5));let z32:=(g.s z49+g.q);let z2:=(1:Nat);let z1:=(IntKind.u8=IntKind.u8);let q1:=fun p:Int=>A z1/\A (p=p);let z6:=(chp True (fun j:Nat=>q1 (g.s (z2+j))) 8);let z4:=(chp True (fun j:Nat=>q1 (g.ink j)) 8);T3 (T2 (A (z8<=g.s z49/\g.s z49<=z9)/\True/\A (z8<=g.q/\g.q<=z9)/\T3 (True/\A (z8<=g.s z49+g.q/\g.s z49+g.q<=z9)/\A (z8<=z12*z32/\z12*z32<=z9)/\T2 (A (z8<=g.s z49*g.q/\g.s z49*g.q<=z9)/\A (z8<=z12*z32-g.s z49*g.q/\z12*z32-g.s z49*g.q<=z9)/\T3 (K (decide (z12*z32-g.s z49*g.q=z39)) (T2 ((True/\True)/\(chp True (fun j:Nat=>A z1/\A (z39=g.res j)) 8)/\A z1/\A (z39=g.res z62))) (True/\(((q14 (z12*z32-g.s z49*g.q))/\(q14 z12)/\True)/\A (((-4611686018427387904:Int)<=z12*z32-g.s z49*g.q/\z12*z32-g.s z49*g.q<=z54)/\z72<=z12/\z12<=z54))/\A True/\T3 (T3 ((∃ g_1:Int,A (z41.pre g_1)/\(z13/\A z68/\A z52/\A z52/\(A z14/\A (g.s z49=g.s z5))/\z38/\(A z14/\A (z12*z32-g.s z49*g.q=g.all))/\A z52/\((((((((True/\A z1/\A (g.s (z5+z2+z5)=g.s (z2+z5)))/\A z1/\A (g.s (z5+z2+z2)=g.s (z2+z2)))/\A z1/\A (g.s (z5+z2+z43)=g.s (z2+z43)))/\A z1/\A (g.s (z5+z2+z44)=g.s (z2+z44)))/\A z1/\A (g.s (z5+z2+z45)=g.s (z2+z45)))/\A z1/\A (g.s (z5+z2+z46)=g.s (z2+z46)))/\A z1/\A (g.s (z5+z2+z47)=g.s (z2+z47)))/\A z1/\A (g.s (z5+z2+z48)=g.s (z2+z48)))/\(A z14/\A (z39=g_1))/\True)/\True/\z4/\z18/\(((((((((True/\A z1/\A (IntKind.u8.wrap (nr (z12*z32-g.s z49*g.q) z12)=g.at g_1 z5))/\A z1/\A (z39=g.at g_1 z2))/\A z1/\A (z39=g.at g_1 z43))/\A z1/\A (z39=g.at g_1 z44))/\A z1/\A (z39=g.at g_1 z45))/\A z1/\A (z39=g.at g_1 z46))/\A z1/\A (z39=g.at g_1 z47))/\A z1/\A (z39=g.at g_1 z48))/\A z1/\A (z39=g.at g_1 z62))/\True)/\∀ g_1:Int,let z64:=(z5+z2+g_1.toNat*z2<=z5/\z5<z5+z2+g_1.toNat*z2+z2);let z63:=(z5+z2+g_1.toNat*z2<=z2/\z2<z5+z2+g_1.toNat*z2+z2);let z60:=(z5+z2+g_1.toNat*z2<=z43/\z43<z5+z2+g_1.toNat*z2+z2);let z59:=(z5+z2+g_1.toNat*z2<=z44/\z44<z5+z2+g_1.toNat*z2+z2);let z58:=(z5+z2+g_1.toNat*z2<=z45/\z45<z5+z2+g_1.toNat*z2+z2);let z57:=(z5+z2+g_1.toNat*z2<=z46/\z46<z5+z2+g_1.toNat*z2+z2);let z56:=(z5+z2+g_1.toNat*z2<=z47/\z47<z5+z2+g_1.toNat*z2+z2);let z55:=(z5+z2+g_1.toNat*z2<=z48/\z48<z5+z2+g_1.toNat*z2+z2);let z50:=(z5+z2+g_1.toNat*z2<=z62/\z62<z5+z2+g_1.toNat*z2+z2);let z37:=(z8<=g_1+z72/\g_1+z72<=z9);let z33:=(decide (z5+z2+g_1.toNat*z2+z2<=(9:Nat)));let z26:=(decide (z5+g_1.toNat*z2+z2<=z62));let z17:=(z39<=g_1/\g_1<(↑z62:Int));let z16:=(z2+g_1.toNat);let z69:=(z8<=g.s z16/\g.s z16<=z9);let z34:=(z8<=z51*g.s z5*g.s z16/\z51*g.s z5*g.s z16<=z9);let z15:=(z5+g_1.toNat*z2);let z66:=(z8<=g.ink z15/\g.ink z15<=z9);let z36:=(z8<=z70*g.ink z15/\z70*g.ink z15<=z9);let z27:=(z8<=z12-ak8 g.F (z12-g.s z16) (z12-g.ink z15)/\z12-ak8 g.F (z12-g.s z16) (z12-g.ink z15)<=z9);let z11:=(((q1 (g.s z16))/\(q1 (g.ink z15))/\(True/\A (z71=z71)/\T2 (A (g.F=g.F)/\True))/\True)/\A (((z39<=g.s z16/\g.s z16<=z12)/\z39<=g.ink z15/\g.ink z15<=z12)/\aP9 g.F));let z7:=(z12-ak8 g.F (z12-g.s z16) (z12-g.ink z15));let z61:=(z8<=g.s z5*z7/\g.s z5*z7<=z9);let z31:=(z8<=z70*g.ink z15+g.s z5*z7/\z70*g.ink z15+g.s z5*z7<=z9);let z0:=(z70*g.ink z15+g.s z5*z7);let z67:=(z8<=g.q*z0/\g.q*z0<=z9);let z30:=(z8<=z51*g.s z5*g.s z16+g.q*z0/\z51*g.s z5*g.s z16+g.q*z0<=z9);let z10:=(((q14 (z51*g.s z5*g.s z16+g.q*z0))/\z35/\True)/\A (((-4611686018427387904:Int)<=z51*g.s z5*g.s z16+g.q*z0/\z51*g.s z5*g.s z16+g.q*z0<=z54)/\z72<=g.all/\g.all<=z54));let z3:=(nr (z51*g.s z5*g.s z16+g.q*z0) g.all);let z29:=(bif decide z63 then IntKind.u8.wrap z3 else g.at g_1 z2);let z28:=(bif decide z64 then IntKind.u8.wrap z3 else g.at g_1 z5);let z25:=(bif decide z50 then IntKind.u8.wrap z3 else g.at g_1 z62);let z24:=(bif decide z55 then IntKind.u8.wrap z3 else g.at g_1 z48);let z23:=(bif decide z56 then IntKind.u8.wrap z3 else g.at g_1 z47);let z22:=(bif decide z57 then IntKind.u8.wrap z3 else g.at g_1 z46);let z21:=(bif decide z58 then IntKind.u8.wrap z3 else g.at g_1 z45);let z20:=(bif decide z59 then IntKind.u8.wrap z3 else g.at g_1 z44);let z19:=(bif decide z60 then IntKind.u8.wrap z3 else g.at g_1 z43); z41.pre g_1->True/\K (decide (g_1<(8:Int))) (True/\A z17/\T3 (True/\K g.over (True/\A z17/\K z26 True False/\T3 (K (decide (g.ink z15=z39)) (T3 (K (decide (z39<g.s z5)) (T3 (A z17/\K z33 True False/\A z37/\True/\∃ (g':Int),A (z41.pre g')/\((z13/\A z68/\A z52/\A z52/\z40/\z38/\z35/\A z52/\z6/\(A z14/\A (g_1+z72=g'))/\True)/\True/\z4/\z18/\(((((((((True/\A z1/\A ((bif decide z64 then g.s z16 else g.at g_1 z5)=g.at g' z5))/\A z1/\A ((bif decide z63 then g.s z16 else g.at g_1 z2)=g.at g' z2))/\A z1/\A ((bif decide z60 then g.s z16 else g.at g_1 z43)=g.at g' z43))/\A z1/\A ((bif decide z59 then g.s z16 else g.at g_1 z44)=g.at g' z44))/\A z1/\A ((bif decide z58 then g.s z16 else g.at g_1 z45)=g.at g' z45))/\A z1/\A ((bif decide z57 then g.s z16 else g.at g_1 z46)=g.at g' z46))/\A z1/\A ((bif decide z56 then g.s z16 else g.at g_1 z47)=g.at g' z47))/\A z1/\A ((bif decide z55 then g.s z16 else g.at g_1 z48)=g.at g' z48))/\A z1/\A ((bif decide z50 then g.s z16 else g.at g_1 z62)=g.at g' z62))/\True)/\A (z41.meas g'<z41.meas g_1))) (T3 (A z17/\K z26 True False/\z11/\A z27/\T3 (A z65/\True/\A z42/\True/\A z69/\A z34/\T2 (A z53/\True/\A z17/\K z26 True False/\A z66/\A z36/\T2 (A z61/\A z31/\A z67/\A z30/\True/\z10/\A True/\True/\A z17/\K z33 True False/\A z37/\True/\∃ (g':Int),A (z41.pre g')/\((z13/\A z68/\A z52/\A z52/\z40/\z38/\z35/\A z52/\z6/\(A z14/\A (g_1+z72=g'))/\True)/\True/\z4/\z18/\(((((((((True/\A z1/\A (z28=g.at g' z5))/\A z1/\A (z29=g.at g' z2))/\A z1/\A (z19=g.at g' z43))/\A z1/\A (z20=g.at g' z44))/\A z1/\A (z21=g.at g' z45))/\A z1/\A (z22=g.at g' z46))/\A z1/\A (z23=g.at g' z47))/\A z1/\A (z24=g.at g' z48))/\A z1/\A (z25=g.at g' z62))/\True)/\A (z41.meas g'<z41.meas g_1)))))))) (T3 (True/\A z17/\K z26 True False/\z11/\A z27/\T3 (A z65/\True/\A z42/\True/\A z69/\A z34/\T2 (A z53/\True/\A z17/\K z26 True False/\A z66/\A z36/\T2 (A z61/\A z31/\A z67/\A z30/\True/\z10/\A True/\True/\A z17/\K z33 True False/\A z37/\True/\∃ (g':Int),A (z41.pre g')/\((z13/\A z68/\A z52/\A z52/\z40/\z38/\z35/\A z52/\z6/\(A z14/\A (g_1+z72=g'))/\True)/\True/\z4/\z18/\(((((((((True/\A z1/\A (z28=g.at g' z5))/\A z1/\A (z29=g.at g' z2))/\A z1/\A (z19=g.at g' z43))/\A z1/\A (z20=g.at g' z44))/\A z1/\A (z21=g.at g' z45))/\A z1/\A (z22=g.at g' z46))/\A z1/\A (z23=g.at g' z47))/\A z1/\A (z24=g.at g' z48))/\A z1/\A (z25=g.at g' z62))/\True)/\A (z41.meas g'<z41.meas g_1)))))))) (T3 (T3 (A z17/\K z26 True False/\z11/\A z27/\T3 (A z65/\True/\A z42/\True/\A z69/\A z34/\T2 (A z53/\True/\A z17/\K z26 True False/\A z66/\A z36/\T2 (A z61/\A z31/\A z67/\A z30/\True/\z10/\A True/\True/\A z17/\K z33 True False/\A z37/\True/\∃ (g':Int),A (z41.pre g')/\((z13/\A z68/\A z52/\A z52/\z40/\z38/\z35/\A z52/\z6/\(A z14/\A (g_1+z72=g'))/\True)/\True/\z4/\z18/\(((((((((True/\A z1/\A (z28=g.at g' z5))/\A z1/\A (z29=g.at g' z2))/\A z1/\A (z19=g.at g' z43))/\A z1/\A (z20=g.at g' z44))/\A z1/\A (z21=g.at g' z45))/\A z1/\A (z22=g.at g' z46))/\A z1/\A (z23=g.at g' z47))/\A z1/\A (z24=g.at g' z48))/\A z1/\A (z25=g.at g' z62))/\True)/\A (z41.meas g'<z41.meas g_1))))))))) (T2 ((True/\True)/\((((((((True/\A z1/\A (g.at g_1 (z5+z49)=g.res z5))/\A z1/\A (g.at g_1 (z5+(z5+z2))=g.res z2))/\A z1/\A (g.at g_1 (z5+(z5+z43))=g.res z43))/\A z1/\A (g.at g_1 (z5+(z5+z44))=g.res z44))/\A z1/\A (g.at g_1 (z5+(z5+z45))=g.res z45))/\A z1/\A (g.at g_1 (z5+(z5+z46))=g.res z46))/\A z1/\A (g.at g_1 (z5+(z5+z47))=g.res z47))/\A z1/\A (g.at g_1 (z5+(z5+z48))=g.res z48))/\A z1/\A (g.at g_1 (z5+(z5+z62))=g.res z62)))))))))))) (by kernel_rfl) ?_;simp only [chp];simp only [ac9,ae4,aT5,eq_self,xD,xC,lu,xX,lX,e1,u8w hf.al.1 hf.al.2];have p0:=aJ4 (a:=g.s 0) (x:=g.q) (A:=255) (X:=255) (by omega) (by omega);refine ⟨by omega,by omega,by omega,by omega,by omega,by omega,fun h0=>?_,fun h0=>⟨by omega,⟨0,⟨by omega,by omega⟩,rfl,?_⟩,fun i hi8=>?_⟩⟩
 ·have hz:g.all=0:=xO h0;simp [PaintG.res,hz]
 ·simp [PaintG.at]
 have h0':g.all≠0:=uN h0;have em:255-ak8 g.F (255-g.s (1+i.toNat)) (255-g.ink i.toNat)=g.mix i.toNat:=rfl;simp only [em];have f1:=hs (1+i.toNat);have f2:=hi i.toNat;have f3:=hf.mix i.toNat;have f4:=bm2 ha ⟨hq,hq'⟩ f1 f2 f3;have f5:=hf.sum i.toNat;have step:∀ v:Int,v=g.new i.toNat->∀ j,(bif decide (1+i.toNat<=j/\j<1+i.toNat+1) then v else g.at i j)=g.at (i+1) j:=fun v hv j=>bX4 g i hi8.1 v hv j
 refine ⟨fun hlt=>?_,fun hge=>?_⟩
 ·have hlt':i<8:=xO hlt;have bad1:decide (i.toNat+1<=8)=true:=lk (by omega);have bad2:decide (1+i.toNat+1<=9)=true:=lk (by omega);simp only [bad1,bad2,uW,xp,Bool.true_eq_false,lag,xC,xD];have ex:∀ v:Int,v=g.new i.toNat->∃ g',(0<=g'/\g'<=8)/\(i+1=g'/\((((((((bif decide (1+i.toNat<=0/\0<1+i.toNat+1) then v else g.at i 0)=g.at g' 0/\(bif decide (1+i.toNat<=1/\1<1+i.toNat+1) then v else g.at i 1)=g.at g' 1)/\(bif decide (1+i.toNat<=2/\2<1+i.toNat+1) then v else g.at i 2)=g.at g' 2)/\(bif decide (1+i.toNat<=3/\3<1+i.toNat+1) then v else g.at i 3)=g.at g' 3)/\(bif decide (1+i.toNat<=4/\4<1+i.toNat+1) then v else g.at i 4)=g.at g' 4)/\(bif decide (1+i.toNat<=5/\5<1+i.toNat+1) then v else g.at i 5)=g.at g' 5)/\(bif decide (1+i.toNat<=6/\6<1+i.toNat+1) then v else g.at i 6)=g.at g' 6)/\(bif decide (1+i.toNat<=7/\7<1+i.toNat+1) then v else g.at i 7)=g.at g' 7)/\(bif decide (1+i.toNat<=8/\8<1+i.toNat+1) then v else g.at i 8)=g.at g' 8)/\(8-g').toNat<(8-i).toNat:=fun v hv=>
   ⟨i+1,⟨by omega,by omega⟩,⟨rfl,⟨⟨⟨⟨⟨⟨⟨⟨step v hv 0,step v hv 1⟩,step v hv 2⟩,step v hv 3⟩,step v hv 4⟩,step v hv 5⟩,step v hv 6⟩,step v hv 7⟩,step v hv 8⟩⟩,by omega⟩
  refine ⟨by omega,fun ho=>⟨by omega,fun hk=>⟨fun h3=>⟨by omega,by omega,ex _ (bG9 g _ ho hk h3)⟩,fun h3=>?_⟩,fun hk=>?_⟩,fun ho=>?_⟩;all_goals
   repeat' apply And.intro
   all_goals first
    | omega
    | exact hF
    | exact ex _ (a99 g hf h0' _ (.inr (.inr ‹_›)))
    | exact ex _ (a99 g hf h0' _ (.inr (.inl ‹_›)))
    | exact ex _ (a99 g hf h0' _ (.inl ‹_›))
 ·have hge':i=8:=by have:=uN hge; omega
  subst hge';simp [PaintG.at,PaintG.res,h0']
end Cmp
set_option linter.unusedSimpArgs false
set_option linter.unusedVariables false
namespace Lpm
open Go.RowKit Sx Num Aff Afi Img Imh Imp Imq Rga Blend Ble Lsg Lta Lrd Lri Luc Lck Lgr Lcs Lst Lch Lcl Lgp Lsc Cmp
abbrev Cl:Type:=Nat->Int
def It.q (x:It) (cx cy:Int):Int:=aa9 (Src.al x.src cx cy) x.alpha
def ae9 (x:It) (cx cy:Int) (b:Cl):Cl:=(PaintG.mk b (inkF (if It.q x cx cy=0 then z8 else Src.at x.src cx cy)) (It.q x cx cy) (aa4 x.blend.toNat) x.over).res
def covR (f:Nat->Rn) (m:Nat) (cx cy:Int):Prop:=∃ j,j<m/\(f j).y=cy/\(f j).x0<=cx/\cx<(f j).x1
instance (f:Nat->Rn) (m:Nat) (cx cy:Int):Decidable (covR f m cx cy):=inferInstanceAs (Decidable (∃ j,j<m/\_))
theorem az3 {f m cx cy}:covR f (m+1) cx cy<->covR f m cx cy\/((f m).y=cy/\(f m).x0<=cx/\cx<(f m).x1):=by
 constructor
 ·rintro ⟨j,h1,h2⟩;by_cases e:j=m
  ·subst e; exact .inr h2
  ·exact .inl ⟨j,by omega,h2⟩
 ·rintro (⟨j,h1,h2⟩ | h)
  ·exact ⟨j,by omega,h2⟩
  ·exact ⟨m,by omega,h⟩
def isU9 (b:Cl):Prop:=∀ j,0<=b j/\b j<=255
theorem ba9 {k:Ink}(h:ao0 k):isU8 (inkF k):=by
 intro j;obtain ⟨⟨h0,h1,h2,h3⟩,h4,h5,h6,h7⟩:=h;match j with
 | 0=>exact h0
 | 1=>exact h1
 | 2=>exact h2
 | 3=>exact h3
 | 4=>exact h4
 | 5=>exact h5
 | 6=>exact h6
 | 7=>exact h7
 | n+8=>exact ⟨xN 0,show (0:Int)<=255 by decide⟩
structure FillOK (x:It):Prop where
 src:SrcOK x.src
 alpha:0<=x.alpha/\x.alpha<=255
 blend:0<=x.blend/\x.blend<=11
theorem bY5:ao0 z8:=by unfold ao0 z8; simp
theorem af2 {x:It}(h:FillOK x) {cx cy:Int}(hxy:xyOK cx cy) {b:Cl}(hb:isU9 b):PaintG.ok (PaintG.mk b (inkF (if It.q x cx cy=0 then z8 else Src.at x.src cx cy)) (It.q x cx cy) (aa4 x.blend.toNat) x.over):=by
 have hs:=aH4 h.src hxy;have hq:0<=It.q x cx cy/\It.q x cx cy<=255:=ad4 hs.2.1 hs.2.2 h.alpha.1 h.alpha.2;refine ⟨⟨hb,?_⟩,hq,x.blend.toNat,by have:=h.blend; omega,rfl⟩;split
 ·exact ba9 bY5
 ·exact ba9 hs.1
theorem nr_le {a b M:Int}(hb:1<=b) (h0:0<=a) (h:a<=M*b):0<=nr a b/\nr a b<=M:=by
 have e:=Int.emod_add_mul_ediv a b;have r0:=xQ a (b:=b) (by omega);have r1:=xJ a (b:=b) (by omega);have q0:0<=a / b:=uL h0 (by omega);have e2:a-a / b*b=a % b:=by rw [uE]; omega
 have q1:a / b<=M:=by
  have:=Int.ediv_le_ediv (c:=b) (by omega) h
  rwa [Int.mul_ediv_cancel _ (by omega)] at this
 unfold nr;rw [e2];split
 ·rename_i hc;refine ⟨by omega,?_⟩;rcases Int.lt_or_le (a / b) M with h1 | h1
  ·omega
  ·have:a / b=M:=by omega
   rw [this,uE b M] at e;omega
 ·exact ⟨q0,q1⟩
theorem PaintG.bM7 {g:PaintG}(h:g.ok):isU9 g.res:=by
 intro j;have f:=h.facts;unfold PaintG.res;split
 ·exact ⟨xN 0,by decide⟩
 ·rename_i h0;have ha:=f.all;split
  ·exact f.al
  ·unfold PaintG.new;split
   ·exact h.1.1 _
   ·exact nr_le (by omega) (f.sum _).1 (by rw [uE]; have:=(f.sum (j-1)).2; rw [uE] at this; exact this)
theorem bi1 {x:It}(h:FillOK x) {cx cy:Int}(hxy:xyOK cx cy) {b:Cl}(hb:isU9 b):isU9 (ae9 x cx cy b):=PaintG.bM7 (af2 h hxy hb)
end Lpm
end Go.Proofs.YthappngbapbkfaaGreat
