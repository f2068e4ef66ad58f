/- Part 10 of the texts that the law's proof leans on. -/
import Derived.Test.YthappngbapbkfaaGreatM9
import Derived.Shelf.SlSortCmp.InsertionK
import Derived.Shelf.SlSortCmp.NoneTotal
import Derived.Ground.SlsfProg
import Derived.Test.YthappngbapbkfaaGreatProg
namespace Go.Proofs.YthappngbapbkfaaGreat
set_option linter.unusedSimpArgs false
set_option linter.unusedVariables false
namespace Gar
open Go.RowKit Sx Num Aff Con Rga Gat
set_option maxRecDepth 100000
abbrev Vec:=Nat->Int
def brkG (f:Nat->Vec) (len x:Nat):Nat->Nat->Nat
 | 0,to=>to
 | n+1,to=>if to<len/\kOf (f to)=kOf (f x) then brkG f len x n (to+1) else to
def brk (f:Nat->Vec) (len x:Nat):Nat:=brkG f len x (len-(x+1)) (x+1)
theorem bB7 (f:Nat->Vec) (len x:Nat):∀ n to,to<=len->to<=brkG f len x n to/\brkG f len x n to<=len
 | 0,to,h=>⟨lh _,h⟩
 | n+1,to,h=>by
  unfold brkG;split
  ·rename_i hc;have:=bB7 f len x n (to+1) hc.1
   exact ⟨by omega,this.2⟩
  ·exact ⟨lh _,h⟩
theorem a61 (f:Nat->Vec) (len x:Nat):∀ n to,∀ k,to<=k->k<brkG f len x n to->kOf (f k)=kOf (f x)
 | 0,to,k,h1,h2=>by simp only [brkG] at h2; omega
 | n+1,to,k,h1,h2=>by
  unfold brkG at h2;split at h2
  ·rename_i hc;by_cases hk:k=to
   ·subst hk; exact hc.2
   ·exact a61 f len x n (to+1) k (by omega) h2
  ·omega
theorem bi6 (f:Nat->Vec) (len x:Nat):∀ n to,len<=to+n->to<=len->brkG f len x n to<len->kOf (f (brkG f len x n to))≠kOf (f x)
 | 0,to,h,h2,h3=>by simp only [brkG] at h3; omega
 | n+1,to,h,h2,h3=>by
  unfold brkG at h3 ⊢;split at h3
  ·rename_i hc;rw [lg hc];exact bi6 f len x n (to+1) (by omega) hc.1 h3
  ·rename_i hc;rw [lb hc];exact fun he=>hc ⟨h3,he⟩
theorem bi5 {f:Nat->Vec}{len x:Nat}(h:x<len):(x<brk f len x/\brk f len x<=len)/\(∀ k,x<=k->k<brk f len x->kOf (f k)=kOf (f x))/\(brk f len x<len->kOf (f (brk f len x))≠kOf (f x)):=by
 have h1:=bB7 f len x (len-(x+1)) (x+1) h;refine ⟨⟨by unfold brk; omega,h1.2⟩,fun k hk hb=>?_,fun hb=>bi6 f len x _ _ (by omega) h hb⟩;by_cases hkx:k=x
 ·rw [hkx]
 ·exact a61 f len x _ _ k (by omega) hb
noncomputable def rowG (f:Nat->Vec) (y:Int) (len:Nat):Nat->Nat->Gt->Gt
 | 0,_,G=>G
 | n+1,x,G=>if x<len then rowG f y len n (brk f len x) (nxt G (f x) ⟨y,x,brk f len x⟩) else G
theorem aY6 (f:Nat->Vec) (y:Int) (len:Nat):∀ n m x G,len<=x+n->len<=x+m->rowG f y len n x G=rowG f y len m x G
 | 0,0,_,_,_,_=>rfl
 | 0,m+1,x,G,h,_=>by unfold rowG; rw [lb (by omega)]
 | n+1,0,x,G,_,h=>by unfold rowG; rw [lb (by omega)]
 | n+1,m+1,x,G,h1,h2=>by
  unfold rowG;by_cases hx:x<len
  ·rw [lg hx,lg hx];have:=(bi5 (f:=f) hx).1
   exact aY6 f y len n m _ _ (by omega) (by omega)
  ·rw [lb hx,lb hx]
theorem as1 (f:Nat->Vec) (y:Int) (len n x:Nat) (G:Gt):rowG f y len (n+1) x G=if x<len then rowG f y len n (brk f len x) (nxt G (f x) ⟨y,x,brk f len x⟩) else G:=rfl
noncomputable def rowB (G:Gt) (y:Int) (len:Nat) (f:Nat->Vec):Gt:=rowG f y len len 0 G
theorem bM5:∃ f,f=rowB:=⟨_,rfl⟩
noncomputable def rowA:Gt->Int->Nat->(Nat->Vec)->Gt:=Classical.choose bM5
theorem bf5:rowA=rowB:=xv bM5
theorem aW8 (L:List Rn) (r:Rn):(addR L r).length<=L.length+1:=by
 unfold addR;split
 ·split
  ·split
   ·rename_i h1 _; have:=xz (xs:=L); simp only [lv,this,xu]; omega
   ·simp
  ·simp
 ·omega
theorem bN3 {B:Nat}{G:Gt}(h:Gok B G) (v:Vec) (r:Rn):Gok (B+1) (nxt G v r):=by
 rw [bw8];have up:Gok (B+1) G:=⟨h.n,fun k=>ub (h.m k),h.val⟩
 have put:∀ {G:Gt}{k:Nat}{L:List Rn},Gok (B+1) G->L.length<=B+1->Gok (B+1) (putP G k L):=fun {G k L} h hl=>by
  refine ⟨h.n,fun j=>?_,h.val⟩;show updN G.m k L.length j<=_;unfold updN;cases decide (j=k)
  ·exact h.m j
  ·exact hl
 have glen:∀ (G:Gt) (k:Nat),(grw G k r).length<=G.m k+1:=fun G k=>by
  have:=aW8 (Rg.L ⟨G.m k,G.p k⟩) r
  rwa [Rg.len] at this
 unfold nxtB;split
 ·exact up
 ·split
  ·exact put up (xh (glen _ _) (by have:=h.m (G.val (kOf v)).toNat; omega))
  ·split
   ·exact ⟨up.n,up.m,up.val⟩
   ·rename_i hh hn;have hn':=h.n;refine put ⟨by show G.n+1<=4096; omega,fun k=>?_,fun l hl=>?_⟩ (xh (glen _ _) ?_)
    ·show updN G.m G.n 0 k<=_;unfold updN;cases decide (k=G.n)
     ·exact ub (h.m k)
     ·exact lm _
    ·show 0<=(bif decide (l=kOf v) then (G.n:Int) else G.val l)/\(bif decide (l=kOf v) then (G.n:Int) else G.val l)<((G.n+1:Nat):Int);have hl:(decide (l=kOf v)||G.has l)=true:=hl;cases hd:decide (l=kOf v) with
     | true=>simp only [xK]; omega
     | false=>
      rw [hd,laf] at hl;have:=h.val l hl
      simp only [xm];omega
    ·show updN G.m G.n 0 G.n+1<=B+1;rw [ag8];omega
theorem same8 (v u:Vec):(decide (v 0=u 0)&&(decide (v 1=u 1)&&(decide (v 2=u 2)&&(decide (v 3=u 3)&&(decide (v 4=u 4)&&(decide (v 5=u 5)&&(decide (v 6=u 6)&&(decide (v 7=u 7)&&true))))))))=decide (kOf v=kOf u):=by
 rw [Bool.eq_iff_iff];simp [kOf]
theorem aK3 {B C:Nat}{G:Gt}(h:Gok B G) (hc:B<=C):Gok C G:=⟨h.n,fun k=>xh (h.m k) hc,h.val⟩
theorem bt7 (G:Gt):G.full=G.full/\(∀ (l:List Int),l.length=8->G.has l=G.has l/\(G.has l=true->G.val l=G.val l))/\(G.n=G.n/\∀ (i:Nat),i<G.n->G.m i=G.m i/\∀ (i':Nat),i'<G.m i->((G.p i i').y=(G.p i i').y/\(G.p i i').x0=(G.p i i').x0)/\(G.p i i').x1=(G.p i i').x1)/\
  G.n=G.n/\∀ (i:Nat),i<G.n->((((((G.ink i 0=G.ink i 0/\G.ink i 1=G.ink i 1)/\G.ink i 2=G.ink i 2)/\G.ink i 3=G.ink i 3)/\G.ink i 4=G.ink i 4)/\G.ink i 5=G.ink i 5)/\G.ink i 6=G.ink i 6)/\G.ink i 7=G.ink i 7:=
 ⟨rfl,fun l _=>⟨rfl,fun _=>rfl⟩,⟨rfl,fun i _=>⟨rfl,fun i' _=>⟨⟨rfl,rfl⟩,rfl⟩⟩⟩,rfl,fun i _=>⟨⟨⟨⟨⟨⟨⟨rfl,rfl⟩,rfl⟩,rfl⟩,rfl⟩,rfl⟩,rfl⟩,rfl⟩⟩
structure RoG where
 G:Gt
 y:Int
 n:Nat
 f:Nat->Vec
def bX1 (n:Nat) (f:Nat->Vec):SV:= .sl n 8 (fun i j=> .int .u8 (f i j))
def cellD:SV->Nat->Vec
 | .sl _ _ g=>fun i j=>Sx.intOf (g i j)
 | _=>fun _ _=>0
def roD:List SV->List SO->Option RoG
 | [_,.int _ y,s],os=>match gtD os with
  | some G=>some ⟨G,y,ai9 s,cellD s⟩
  | none=>none
 | _,_=>none
structure RoS where
 x:Nat
 G:Gt
structure RoP (g:RoG) (B:Nat) (s:RoS):Prop where
 le:s.x<=g.n
 ok:Gok (B+s.x) s.G
 fin:rowG g.f g.y g.n (g.n-s.x) s.x s.G=rowA g.G g.y g.n g.f
structure RoJ (g:RoG) (s:RoS) (to:Nat):Prop where
 lt:s.x<to
 le:to<=g.n
 fin:brkG g.f g.n s.x (g.n-to) to=brk g.f g.n s.x
def roI (g:RoG):Inv:=⟨RoS,fun s=>∃ B,RoP g B s/\B+g.n<=4294967295,fun s=>⟨[(0,.own 0 0),(1,.int .i64 g.y),(2,bX1 g.n g.f),(6,.int .i64 s.x)],gaO s.G 1 1⟩,fun s=>g.n-s.x⟩
def roIJ (g:RoG) (s:RoS):Inv:=⟨Nat,fun to=>s.x<g.n/\RoJ g s to,fun to=>⟨[(0,.own 0 0),(1,.int .i64 g.y),(2,bX1 g.n g.f),(6,.int .i64 s.x),(7,.int .i64 to)],gaO s.G 1 1⟩,fun to=>g.n-to⟩
noncomputable def bE0:FSpec:=ac3 27 [.arg 0,.cell 0 0,.cell 0 1,.cell 0 2] roD (fun g=>[.own 0 0,.int .i64 g.y,bX1 g.n g.f])
 (fun g=>gaO g.G 0 0) (fun g=>∃ B,Gok B g.G/\B+g.n<=4294967295)
 (fun _=> .tup 0 (lst []))
 (fun g=>gaO (rowA g.G g.y g.n g.f) 1 1)
theorem bv5:aa2 Tryz.prog bE0:=by
 refine av0 (specs:=[bL6]) (az5 ⟨bT2,trivial⟩) (eqs:=eqI) (all_eq bi2) Aff.mixed Tryz.func27 rfl (by kernel_rfl) (fun _ _=>by kernel_rfl) (fun g=>(⟨[(1,.nest (roI g) (fun s=>[(3,.inv (roIJ g s))]))],[]⟩:Ann)) false (fun g=>lH (by kernel_rfl)) ?_;rintro g ⟨B,hB,hle⟩;refine ab2 (B:=let T4:=fun p:Prop=>True/\True/\True/\True/\p;let A:=Sx.Ask;let z21:=(7:Nat);let z20:=(6:Nat);let z19:=(5:Nat);let z18:=(4:Nat);let z17:=(3:Nat);let z16:=(2:Nat);let z12:=(((True/\True)/\True)/\True);let z10:=(1:Nat);let z9:=(0:Nat);let z27:=(z9+(z9+z10+z10+z10+z10+z10));let z26:=(z9+(z9+z10+z10+z10+z10+z10+z10));let z25:=(z9+(z9+z10+z10+z10+z10+z10+z10+z10));let z8:=(rowA g.G g.y g.n g.f);let z5:=(IntKind.i64=IntKind.i64);let q5:=fun p:Int=>A z5/\A (p=p);let z14:=(q5 g.y);let z4:=(IntKind.u8=IntKind.u8);let q4:=fun p:Int=>A z4/\A (p=p);let z2:=(A (g.n=g.n)/\∀ i:Nat,i<g.n->(chp True (fun j:Nat=>q4 (g.f i j)) 7)/\q4 (g.f i z21));True/\(∃ g_1:RoS,A ((roI g).pre g_1)/\True/\(A (z9=z9)/\z14/\z2/\(A z5/\A ((0:Int)=(↑g_1.x:Int)))/\True)/\(z12/\A (g.G.full=g_1.G.full))/\(∀ (l:List Int),l.length=(8:Nat)->A (g.G.has l=g_1.G.has l)/\((g_1.G.has l||false)=true->A z5/\A (g.G.val l=g_1.G.val l)))/\(A (g.G.n=g_1.G.n)/\(∀ i:Nat,i<g_1.G.n->A (g.G.m i=g_1.G.m i)/\∀ (i':Nat),i'<g_1.G.m i->((True/\A z5/\A ((g.G.p i i').y=(g_1.G.p i i').y))/\A z5/\A ((g.G.p i i').x0=(g_1.G.p i i').x0))/\A z5/\A ((g.G.p i i').x1=(g_1.G.p i i').x1))/\∀ i:Nat,i<g_1.G.n->True)/\(A (g.G.n=g_1.G.n)/\∀ i:Nat,i<g_1.G.n->(((((((True/\A z4/\A (g.G.ink i z9=g_1.G.ink i z9))/\A z4/\A (g.G.ink i z10=g_1.G.ink i z10))/\A z4/\A (g.G.ink i z16=g_1.G.ink i z16))/\A z4/\A (g.G.ink i z17=g_1.G.ink i z17))/\A z4/\A (g.G.ink i z18=g_1.G.ink i z18))/\A z4/\A (g.G.ink i z19=g_1.G.ink i z19))/\A z4/\A (g.G.ink i z20=g_1.G.ink i z20))/\A z4/\A (g.G.ink i z21=g_1.G.ink i z21))/\True)/\∀ g_1:RoS,let z28:=(roIJ g g_1);let z15:=(z12/\A (g_1.G.full=g_1.G.full));let z11:=(∀ (l:List Int),l.length=(8:Nat)->A (g_1.G.has l=g_1.G.has l)/\((g_1.G.has l||false)=true->q5 (g_1.G.val l)));let z7:=(↑g_1.x:Int);let z23:=(q5 z7);let z22:=((0:Int)<=z7/\z7<(↑g.n:Int));let z6:=(A (g_1.G.n=g_1.G.n)/\(∀ i:Nat,i<g_1.G.n->A (g_1.G.m i=g_1.G.m i)/\∀ (i':Nat),let z24:=(g_1.G.p i i'); i'<g_1.G.m i->((True/\q5 z24.y)/\q5 z24.x0)/\q5 z24.x1)/\∀ i:Nat,i<g_1.G.n->True);let z3:=(A (g_1.G.n=g_1.G.n)/\∀ i:Nat,i<g_1.G.n->(chp True (fun j:Nat=>q4 (g_1.G.ink i j)) 7)/\q4 (g_1.G.ink i z21)); (roI g).pre g_1->T4 (Br (decide (z7<(↑g.n:Int))) (True/\A ((-9223372036854775808:Int)<=z7+(1:Int)/\z7+(1:Int)<=(9223372036854775807:Int))/\True/\(∃ g_2:Nat,A (z28.pre g_2)/\True/\(A (z9=z9)/\z14/\z2/\z23/\(A z5/\A (z7+(1:Int)=(↑g_2:Int)))/\True)/\z15/\z11/\z6/\z3/\True)/\∀ g_2:Nat,let z13:=(↑g_2:Int);let z1:=((True/\(A (z9=z9)/\(chp True (fun j:Nat=>q4 (g.f z7.toNat (z9+j))) 8)/\z14/\z23/\(q5 z13)/\True)/\z15/\z11/\z6/\z3/\True)/\A (Gok (4294967295:Nat) g_1.G));let z0:=(nxt g_1.G (fun (j:Nat)=>g.f z7.toNat (z9+j)) (Rn.mk g.y z7 z13)); z28.pre g_2->T4 (True/\Br (decide (z13<(↑g.n:Int))) (True/\True/\A ((0:Int)<=z13/\z13<(↑g.n:Int))/\True/\True/\True/\A z22/\True/\True/\True/\Br (decide (g.f z13.toNat (z9+z9)=g.f z7.toNat (z9+z9))&&(decide (g.f z13.toNat (z9+(z9+z10))=g.f z7.toNat (z9+(z9+z10)))&&(decide (g.f z13.toNat (z9+(z9+z10+z10))=g.f z7.toNat (z9+(z9+z10+z10)))&&(decide (g.f z13.toNat (z9+(z9+z10+z10+z10))=g.f z7.toNat (z9+(z9+z10+z10+z10)))&&(decide (g.f z13.toNat (z9+(z9+z10+z10+z10+z10))=g.f z7.toNat (z9+(z9+z10+z10+z10+z10)))&&(decide (g.f z13.toNat z27=g.f z7.toNat z27)&&(decide (g.f z13.toNat z26=g.f z7.toNat z26)&&(decide (g.f z13.toNat z25=g.f z7.toNat z25)&&true)))))))) (True/\A ((-9223372036854775808:Int)<=z13+(1:Int)/\z13+(1:Int)<=(9223372036854775807:Int))/\True/\∃ (g':Nat),A (z28.pre g')/\True/\((A (z9=z9)/\z14/\z2/\z23/\(A z5/\A (z13+(1:Int)=(↑g':Int)))/\True)/\z15/\z11/\z6/\z3/\True)/\A (z28.meas g'<z28.meas g_2)) (True/\True/\True/\A z22/\T4 (z1/\True/\True/\∃ (g':RoS),A ((roI g).pre g')/\True/\((A (z9=z9)/\z14/\z2/\(A z5/\A (z13=(↑g'.x:Int)))/\True)/\(z12/\A (z0.full=g'.G.full))/\(∀ (l:List Int),l.length=(8:Nat)->A (z0.has l=g'.G.has l)/\((g'.G.has l||false)=true->A z5/\A (z0.val l=g'.G.val l)))/\(A (z0.n=g'.G.n)/\(∀ i:Nat,i<g'.G.n->A (z0.m i=g'.G.m i)/\∀ (i':Nat),i'<g'.G.m i->((True/\A z5/\A ((z0.p i i').y=(g'.G.p i i').y))/\A z5/\A ((z0.p i i').x0=(g'.G.p i i').x0))/\A z5/\A ((z0.p i i').x1=(g'.G.p i i').x1))/\∀ i:Nat,i<g'.G.n->True)/\(A (z0.n=g'.G.n)/\∀ i:Nat,i<g'.G.n->(((((((True/\A z4/\A (z0.ink i z9=g'.G.ink i z9))/\A z4/\A (z0.ink i z10=g'.G.ink i z10))/\A z4/\A (z0.ink i z16=g'.G.ink i z16))/\A z4/\A (z0.ink i z17=g'.G.ink i z17))/\A z4/\A (z0.ink i z18=g'.G.ink i z18))/\A z4/\A (z0.ink i z19=g'.G.ink i z19))/\A z4/\A (z0.ink i z20=g'.G.ink i z20))/\A z4/\A (z0.ink i z21=g'.G.ink i z21))/\True)/\A ((roI g).meas g'<(roI g).meas g_1)))) (T4 (A z22/\T4 (z1/\True/\True/\∃ (g':RoS),A ((roI g).pre g')/\True/\((A (z9=z9)/\z14/\z2/\(A z5/\A (z13=(↑g'.x:Int)))/\True)/\(z12/\A (z0.full=g'.G.full))/\(∀ (l:List Int),l.length=(8:Nat)->A (z0.has l=g'.G.has l)/\((g'.G.has l||false)=true->A z5/\A (z0.val l=g'.G.val l)))/\(A (z0.n=g'.G.n)/\(∀ i:Nat,i<g'.G.n->A (z0.m i=g'.G.m i)/\∀ (i':Nat),i'<g'.G.m i->((True/\A z5/\A ((z0.p i i').y=(g'.G.p i i').y))/\A z5/\A ((z0.p i i').x0=(g'.G.p i i').x0))/\A z5/\A ((z0.p i i').x1=(g'.G.p i i').x1))/\∀ i:Nat,i<g'.G.n->True)/\(A (z0.n=g'.G.n)/\∀ i:Nat,i<g'.G.n->(((((((True/\A z4/\A (z0.ink i z9=g'.G.ink i z9))/\A z4/\A (z0.ink i z10=g'.G.ink i z10))/\A z4/\A (z0.ink i z16=g'.G.ink i z16))/\A z4/\A (z0.ink i z17=g'.G.ink i z17))/\A z4/\A (z0.ink i z18=g'.G.ink i z18))/\A z4/\A (z0.ink i z19=g'.G.ink i z19))/\A z4/\A (z0.ink i z20=g'.G.ink i z20))/\A z4/\A (z0.ink i z21=g'.G.ink i z21))/\True)/\A ((roI g).meas g'<(roI g).meas g_1)))))) (True/\True/\(True/\True)/\(z12/\A (g_1.G.full=z8.full))/\(∀ (l:List Int),l.length=(8:Nat)->A (g_1.G.has l=z8.has l)/\((z8.has l||false)=true->A z5/\A (g_1.G.val l=z8.val l)))/\(A (g_1.G.n=z8.n)/\(∀ i:Nat,i<z8.n->A (g_1.G.m i=z8.m i)/\∀ (i':Nat),i'<z8.m i->((True/\A z5/\A ((g_1.G.p i i').y=(z8.p i i').y))/\A z5/\A ((g_1.G.p i i').x0=(z8.p i i').x0))/\A z5/\A ((g_1.G.p i i').x1=(z8.p i i').x1))/\∀ i:Nat,i<z8.n->True)/\(A (g_1.G.n=z8.n)/\∀ i:Nat,i<z8.n->(((((((True/\A z4/\A (g_1.G.ink i z9=z8.ink i z9))/\A z4/\A (g_1.G.ink i z10=z8.ink i z10))/\A z4/\A (g_1.G.ink i z16=z8.ink i z16))/\A z4/\A (g_1.G.ink i z17=z8.ink i z17))/\A z4/\A (g_1.G.ink i z18=z8.ink i z18))/\A z4/\A (g_1.G.ink i z19=z8.ink i z19))/\A z4/\A (g_1.G.ink i z20=z8.ink i z20))/\A z4/\A (g_1.G.ink i z21=z8.ink i z21))/\True))) (by kernel_rfl) ?_;simp only [chp];simp only [cln,lw,xA];simp only [Nat.reduceAdd,same8,lA,lI];have step:∀ {s:RoS}{B:Nat}{to:Nat},RoP g B s->s.x<g.n->brk g.f g.n s.x=to->RoP g B ⟨to,nxt s.G (g.f s.x) ⟨g.y,s.x,to⟩⟩:=fun {s B to} P hx hto=>by
  have hb:=(bi5 (f:=g.f) hx).1;subst hto;refine ⟨hb.2,aK3 (bN3 P.ok _ _) (by show B+s.x+1<=B+brk g.f g.n s.x; omega),?_⟩;rw [<-P.fin];obtain ⟨k,hk⟩:∃ k,g.n-s.x=k+1:=⟨g.n-s.x-1,by omega⟩
  rw [hk];rw [as1,lg hx];exact aY6 g.f g.y g.n (g.n-brk g.f g.n s.x) k (brk g.f g.n s.x) _ (by omega) (by omega)
 have done:∀ {s:RoS}{to:Nat},RoJ g s to->(to<g.n->kOf (g.f to)≠kOf (g.f s.x))->brk g.f g.n s.x=to:=fun {s to} J h=>by
  rw [<-J.fin];cases hm:g.n-to with
  | zero=>rfl
  | succ m=>
   unfold brkG;rw [lb (fun hc=>h hc.1 hc.2)]
 have nextI:∀ {s:RoS}{to:Nat}(hs:∃ B,RoP g B s/\B+g.n<=4294967295),s.x<g.n->RoJ g s to->(to<g.n->kOf (g.f to)≠kOf (g.f s.x))->(roI g).pre ⟨to,nxt s.G (g.f s.x) ⟨g.y,s.x,to⟩⟩:=fun {s to} hs hx J h=>by
  obtain ⟨B,P,hB⟩:=hs;exact ⟨B,step P hx (done J h),hB⟩
 have gk:∀ {s:RoS},(∃ B,RoP g B s/\B+g.n<=4294967295)->Gok 4294967295 s.G:=fun {s} hs=>by
  obtain ⟨B,P,hB⟩:=hs;have:=P.le
  exact aK3 P.ok (by omega)
 refine ⟨⟨⟨0,g.G⟩,⟨B,⟨lm _,by rw [lX]; exact hB,?_⟩,hle⟩,rfl,bt7 _⟩,fun s hs=>⟨fun hx=>⟨by omega,⟨s.x+1,⟨by omega,by omega,by omega,?_⟩,by omega⟩,fun to hto=>?_⟩,fun hx=>?_⟩⟩
 ·show rowG g.f g.y g.n (g.n-0) 0 g.G=_;rw [bf5];rfl
 ·rfl
 ·obtain ⟨hx',J⟩:=hto;have hx:s.x<g.n:=hx';have J1:=J.lt;have J2:=J.le;have hm:∀ G',(roI g).meas ⟨to,G'⟩<(roI g).meas s:=fun G'=>by show g.n-to<g.n-s.x; omega
  refine ⟨fun hlt=>⟨by omega,by omega,fun he=>⟨by omega,to+1,⟨hx,by omega,by omega,?_⟩,by omega,by show g.n-(to+1)<g.n-to; omega⟩,fun he=>⟨by omega,gk hs,⟨to,nxt s.G (g.f s.x) ⟨g.y,s.x,to⟩⟩,nextI hs hx J (fun _=>he),⟨rfl,bt7 _⟩,hm _⟩⟩,fun hge=>⟨by omega,gk hs,⟨to,nxt s.G (g.f s.x) ⟨g.y,s.x,to⟩⟩,nextI hs hx J (fun h=>absurd h (by omega)),⟨rfl,bt7 _⟩,hm _⟩⟩;rw [<-J.fin];obtain ⟨k,hk⟩:∃ k,g.n-to=k+1:=⟨g.n-to-1,by omega⟩
  rw [hk,show g.n-(to+1)=k by omega];show _=brkG g.f g.n s.x (k+1) to;conv=>rhs; unfold brkG
  rw [lg ⟨by omega,he⟩]
 ·obtain ⟨B',P,hB'⟩:=hs;have h1:=P.le;have h2:s.x=g.n:=by omega
  have h3:=P.fin;rw [h2,xB] at h3;have h3:s.G=rowA g.G g.y g.n g.f:=h3;rw [<-h3];exact bt7 _
structure Pcs where
 n:Nat
 m:Nat->Nat
 p:Nat->Nat->Rn
 ink:Nat->Vec
def pcC (P:Pcs) (i j:Nat):SV:=match j with
 | 0=> .sl (P.m i) 3 (fun k=>lst (rnL (P.p i k)))
 | j+1=> .int .u8 (P.ink i j)
def pcS (P:Pcs):SV:= .sl P.n 9 (pcC P)
def pcD (s:SV):Pcs:=match s with
 | .sl n _ f=>⟨n,fun i=>ai9 (f i 0),fun i=>rgD (f i 0),fun i j=>Sx.intOf (f i (j+1))⟩
 | _=>⟨0,fun _=>0,fun _ _=>⟨0,0,0⟩,fun _ _=>0⟩
def Gt.P (G:Gt):Pcs:=⟨bif G.full then 0 else G.n,G.m,G.p,G.ink⟩
def pcA (G:Gt):SV:= .tup 2 (lst [pcS (Gt.P G),.int .i64 (bif G.full then 2 else 0)])
def piI (G:Gt):Inv:=⟨Nat,fun i=>G.full=false/\i<=G.n,fun i=>⟨[(0,.own 0 0),(4,.osl 4 0),(14,.osl 3 0),(15,.int .i64 G.n),(16,.int .i64 i)],
 [.cells 4 (lst [.omap 1,.osl 2 0,.osl 3 0,.bool G.full]) 108,.mpi (.arr 8 .u8) false G.has (fun l=> .int .i64 (G.val l)),
   .srow 0 G.n 1 (a48 3 G.m (fun k i=>lst (rnL (G.p k i))) (fun _=>lst [])),.row 0 G.n 8 (fun i j=> .int .u8 (G.ink i j)) 28,
   .row 0 i 9 (pcC ⟨G.n,G.m,G.p,G.ink⟩) 62]⟩,fun i=>G.n-i⟩
def be6:FSpec:=ac3 28 [.arg 0,.cell 0 0,.cell 0 1,.cell 0 2] (fun l os=>gtD os) (fun _=>[.own 0 0])
 (fun G=>gaO G 0 0) (fun G=>G.n<=4096) (fun G=>pcA G)
 (fun _=>[.dead,.dead,.dead,.dead])
theorem bv7:aa2 Tryz.prog be6:=by
 refine smW (specs:=[]) trivial Tryz.func28 (fun G=>(⟨[(5,.inv (piI G))],[(4,[.own 4 62 9,.give 2])]⟩:Ann)) false ?_;rintro G hG;refine ab2 (B:=let A:=Sx.Ask;let z12:=(9:Nat);let z9:=(↑G.n:Int);let z8:=((((True/\True)/\True)/\True)/\A (G.full=G.full));let z7:=(1:Nat);let z4:=(0:Nat);let z2:=(IntKind.i64=IntKind.i64);let q2:=fun p:Int=>A z2/\A (p=p);let z5:=(∀ (l:List Int),l.length=(8:Nat)->A (G.has l=G.has l)/\((G.has l||false)=true->q2 (G.val l)));let z3:=(A (G.n=G.n)/\∀ i:Nat,i<G.n->True/\A (G.m i=G.m i)/\∀ i_1:Nat,let z10:=(G.p i i_1); i_1<G.m i->((True/\q2 z10.y)/\q2 z10.x0)/\q2 z10.x1);let z1:=(IntKind.u8=IntKind.u8);let q1:=fun p:Int=>A z1/\A (p=p);let z0:=(A (G.n=G.n)/\∀ i:Nat,i<G.n->(chp True (fun j:Nat=>q1 (G.ink i j)) 7)/\q1 (G.ink i (7:Nat)));True/\True/\True/\True/\True/\True/\Br G.full (True/\True/\True/\True/\(((True/\A ((bif G.full then z4 else G.n)=z4))/\A z2/\A ((2:Int)=bif G.full then (2:Int) else (0:Int)))/\True)/\True/\True/\True/\True/\True) (True/\True/\True/\True/\True/\True/\True/\(∃ g:Nat,A ((piI G).pre g)/\True/\(A (z4=z4)/\True/\True/\(q2 z9)/\(A z2/\A ((0:Int)=(↑g:Int)))/\True)/\z8/\z5/\z3/\z0/\(A (z4=g)/\∀ i:Nat,i<g->((((((((True/\False)/\False)/\False)/\False)/\False)/\False)/\False)/\False)/\False)/\True)/\∀ g:Nat,let z6:=(↑g:Int); (piI G).pre g->True/\Br (decide (z6<z9)) (True/\A ((0:Int)<=z6/\z6<z9)/\A (z6.toNat<G.n)/\True/\True/\True/\True/\True/\True/\True/\True/\True/\A ((0:Int)<=z6/\z6<z9)/\True/\True/\True/\True/\True/\A (g+z7<=(9223372036854775807:Nat)/\(g+z7)*(32:Nat)<=(140737488355328:Nat))/\True/\A ((-9223372036854775808:Int)<=z6+(1:Int)/\z6+(1:Int)<=(9223372036854775807:Int))/\True/\∃ (g':Nat),A ((piI G).pre g')/\True/\((A (z4=z4)/\True/\True/\(q2 z9)/\(A z2/\A (z6+(1:Int)=(↑g':Int)))/\True)/\z8/\z5/\z3/\z0/\(A (g+z7=g')/\∀ i:Nat,i<g'->((((((((True/\A ((bif decide (i<g) then G.m i else G.m z6.toNat)=G.m i)/\∀ i_1:Nat,let z11:=(G.p i i_1); i_1<G.m i->((True/\A z2/\A ((bif decide (i<g) then z11.y else (G.p z6.toNat i_1).y)=z11.y))/\A z2/\A ((bif decide (i<g) then z11.x0 else (G.p z6.toNat i_1).x0)=z11.x0))/\A z2/\A ((bif decide (i<g) then z11.x1 else (G.p z6.toNat i_1).x1)=z11.x1))/\A z1/\A ((bif decide (i<g) then G.ink i z4 else G.ink z6.toNat (z4+(z4+(z7-z4*z12-z7))))=G.ink i z4))/\A z1/\A ((bif decide (i<g) then G.ink i z7 else G.ink z6.toNat (z4+(z4+((2:Nat)-z4*z12-z7))))=G.ink i z7))/\A z1/\A ((bif decide (i<g) then G.ink i (2:Nat) else G.ink z6.toNat (z4+(z4+((3:Nat)-z4*z12-z7))))=G.ink i (2:Nat)))/\A z1/\A ((bif decide (i<g) then G.ink i (3:Nat) else G.ink z6.toNat (z4+(z4+((4:Nat)-z4*z12-z7))))=G.ink i (3:Nat)))/\A z1/\A ((bif decide (i<g) then G.ink i (4:Nat) else G.ink z6.toNat (z4+(z4+((5:Nat)-z4*z12-z7))))=G.ink i (4:Nat)))/\A z1/\A ((bif decide (i<g) then G.ink i (5:Nat) else G.ink z6.toNat (z4+(z4+((6:Nat)-z4*z12-z7))))=G.ink i (5:Nat)))/\A z1/\A ((bif decide (i<g) then G.ink i (6:Nat) else G.ink z6.toNat (z4+(z4+((7:Nat)-z4*z12-z7))))=G.ink i (6:Nat)))/\A z1/\A ((bif decide (i<g) then G.ink i (7:Nat) else G.ink z6.toNat (z4+(z4+((8:Nat)-z4*z12-z7))))=G.ink i (7:Nat)))/\True)/\A ((piI G).meas g'<(piI G).meas g)) (True/\True/\True/\True/\True/\(((True/\A (g=bif G.full then z4 else G.n)/\∀ i:Nat,(i<bif G.full then z4 else G.n)->((((((((True/\A (G.m i=(Gt.P G).m i)/\∀ i_1:Nat,i_1<(Gt.P G).m i->((True/\A z2/\A ((G.p i i_1).y=((Gt.P G).p i i_1).y))/\A z2/\A ((G.p i i_1).x0=((Gt.P G).p i i_1).x0))/\A z2/\A ((G.p i i_1).x1=((Gt.P G).p i i_1).x1))/\A z1/\A (G.ink i z4=(Gt.P G).ink i z4))/\A z1/\A (G.ink i z7=(Gt.P G).ink i z7))/\A z1/\A (G.ink i (2:Nat)=(Gt.P G).ink i (2:Nat)))/\A z1/\A (G.ink i (3:Nat)=(Gt.P G).ink i (3:Nat)))/\A z1/\A (G.ink i (4:Nat)=(Gt.P G).ink i (4:Nat)))/\A z1/\A (G.ink i (5:Nat)=(Gt.P G).ink i (5:Nat)))/\A z1/\A (G.ink i (6:Nat)=(Gt.P G).ink i (6:Nat)))/\A z1/\A (G.ink i (7:Nat)=(Gt.P G).ink i (7:Nat)))/\A z2/\A ((0:Int)=bif G.full then (2:Int) else (0:Int)))/\True)/\True/\True/\True/\True/\True))) (by kernel_rfl) ?_;simp only [chp];simp only [cln,lw,xA];refine ⟨fun h=>by rw [h]; exact ⟨rfl,rfl⟩,fun h=>⟨⟨0,⟨h,lm _⟩,rfl,rfl,fun i hi=>absurd hi (lj _)⟩,fun k hk=>⟨fun hlt=>?_,fun hge=>?_⟩⟩⟩
 ·have hk1:=hk.1;refine ⟨by omega,by omega,by omega,by omega,by omega,k+1,⟨hk1,by omega⟩,⟨by omega,rfl,fun i hi=>?_⟩,by show G.n-(k+1)<G.n-k; omega⟩;by_cases hik:i<k
  ·simp only [lk hik,xK];repeat' (first | rfl | trivial | apply And.intro | intro _)
  ·obtain rfl:i=k:=by omega
   simp only [li hik,xm];repeat' (first | rfl | trivial | apply And.intro | intro _)
 ·have hk2:k<=G.n:=hk.2;have hkn:k=G.n:=by omega
  rw [h];simp only [xm];refine ⟨⟨hkn,fun i hi=>?_⟩,trivial⟩;repeat' (first | rfl | trivial | apply And.intro | intro _)
def bs2:FSpec:=aa3 48 (γ:=Int×Int) (fun | [.int _ w,.int _ h]=>some (w,h) | _=>none) (fun g=>[.int .i64 g.1,.int .i64 g.2]) (fun _=>True)
 (fun g=> .bool (decide (1<=g.1)&&(decide (g.1<=256)&&(decide (1<=g.2)&&decide (g.2<=256)))))
theorem bF6:aa2 Tryz.prog bs2:=by
 refine ssW (specs:=[]) trivial Tryz.func48 (fun g=>A0) ?_;rintro ⟨w,h⟩ _;refine ab2 (B:=let A:=Sx.Ask;let z0:=(decide ((1:Int)<=w)&&(decide (w<=(256:Int))&&(decide ((1:Int)<=h)&&decide (h<=(256:Int)))));True/\True/\True/\True/\Br (decide ((1:Int)<=w)) (True/\True/\True/\True/\Br (decide (w<=(256:Int))) (True/\True/\True/\True/\Br (decide ((1:Int)<=h)) (True/\True/\True/\True/\True/\A (decide (h<=(256:Int))=z0)) (True/\True/\True/\A (false=z0))) (True/\True/\True/\True/\True/\A (false=z0))) (True/\True/\True/\True/\True/\True/\True/\A (false=z0))) (by kernel_rfl) ?_;simp only [cln,lw,xA];refine ⟨fun h1=>⟨fun h2=>⟨fun h3=>?_,fun h3=>?_⟩,fun h2=>?_⟩,fun h1=>?_⟩
 ·rw [lk h1,lk h2,lk h3]; rfl
 ·rw [li h3]; simp
 ·rw [li h2]; simp
 ·rw [li h1]; rfl
structure OfG where
 w:Nat
 h:Nat
 n:Nat
 f:Nat->Vec
def b71:Gt:=⟨fun _=>false,fun _=>0,0,fun _=>0,fun _ _=>⟨0,0,0⟩,fun _ _=>0,false⟩
noncomputable def ofR (f:Nat->Vec) (W:Nat):Nat->Gt
 | 0=>b71
 | y+1=>rowA (ofR f W y) y W (fun x=>f (y*W+x))
noncomputable def ofB (g:OfG):Gt:=ofR g.f (16*g.w) (16*g.h)
theorem b46:∃ f,f=ofB:=⟨_,rfl⟩
noncomputable def ofA:OfG->Gt:=Classical.choose b46
theorem of_eq:ofA=ofB:=xv b46
theorem bu0 (f:Nat->Vec) (y:Int) (len:Nat):∀ n x B G,x<=len->Gok (B+x) G->Gok (B+len) (rowG f y len n x G)
 | 0,x,B,G,h1,h2=>aK3 h2 (by omega)
 | n+1,x,B,G,h1,h2=>by
  rw [as1];split
  ·rename_i hx;have hb:=(bi5 (f:=f) hx).1;exact bu0 f y len n _ B _ hb.2 (aK3 (bN3 h2 _ _) (by omega))
  ·exact aK3 h2 (by omega)
theorem bQ8 {f:Nat->Vec}{y:Int}{len B:Nat}{G:Gt}(h:Gok B G):Gok (B+len) (rowA G y len f):=by
 rw [bf5];exact bu0 f y len len 0 B G (lm _) h
theorem bw7 (f:Nat->Vec) (W:Nat):∀ y,Gok (y*W) (ofR f W y)
 | 0=>⟨lm _,fun _=>lm _,fun l h=>by cases h⟩
 | y+1=>by
  rw [lK,lah];exact bQ8 (bw7 f W y)
structure OfS where
 y:Nat
 G:Gt
end Gar
set_option linter.unusedSimpArgs false
set_option linter.unusedVariables false
namespace Rgm
open Rga Rgl
def eY (f:Nat->Rn) (k:Nat):Int:=(f (k / 2)).y
abbrev le2 (y x y' x':Int):Prop:=y<y'\/(y=y'/\x<=x')
abbrev lt2 (y x y' x':Int):Prop:=y<y'\/(y=y'/\x<x')
theorem lt_of {g:Rg}(h:vld g.L) {i j:Nat}(hij:i<j) (hj:j<g.n):ltR (g.f i) (g.f j):=by
 have:=xR.1 h.2 i j (by rw [Rg.len]; omega) (by rw [Rg.len]; exact hj) hij
 simpa [Rg.L] using this
structure CbG where
 a:Rg
 b:Rg
structure CsG where
 i:Nat
 j:Nat
 from':Eg
 L:List Rn
structure CbP (g:CbG) (K:Bool->Bool->Bool) (s:CsG):Prop where
 hi:s.i<=2*g.a.n
 hj:s.j<=2*g.b.n
 c1:0<s.i->le2 (eY g.a.f (s.i-1)) (eX g.a.f (s.i-1)) s.from'.y s.from'.x
 c2:0<s.j->le2 (eY g.b.f (s.j-1)) (eX g.b.f (s.j-1)) s.from'.y s.from'.x
 u1:0<s.i+s.j->s.i<2*g.a.n->le2 s.from'.y s.from'.x (eY g.a.f s.i) (eX g.a.f s.i)
 u2:0<s.i+s.j->s.j<2*g.b.n->le2 s.from'.y s.from'.x (eY g.b.f s.j) (eX g.b.f s.j)
 fok:(-8192<=s.from'.y/\s.from'.y<8192)/\ -8192<=s.from'.x/\s.from'.x<=8192
 hL:vld s.L
 hE:0<s.i+s.j->aftE s.L s.from'.y s.from'.x
 h0:s.i+s.j=0->s.L=[]
 hm:0<s.i+s.j->∀ y x,mem s.L y x=(decide (lt2 y x s.from'.y s.from'.x)&&K (mem g.a.L y x) (mem g.b.L y x))
end Rgm
set_option linter.unusedSimpArgs false
set_option linter.unusedVariables false
namespace Rgn
open Rga Rgl Rgm
def sumR (f:Int->Int) (lo:Int):Nat->Int
 | 0=>0
 | n+1=>sumR f lo n+f (lo+n)
def b2i (b:Bool):Int:=if b then 1 else 0
def cnt (χ:Int->Int->Bool):Int:=sumR (fun y=>sumR (fun x=>b2i (χ y x)) (-8192) 16384) (-8192) 16384
def Lf (f:Nat->Rn) (n:Nat):List Rn:=(List.range n).map f
theorem bC6 (f:Nat->Rn) (n:Nat):Lf f (n+1)=Lf f n++[f n]:=by
 unfold Lf;rw [List.range_succ,List.map_append];rfl
theorem aE4 (f:Nat->Rn) (n:Nat):(Lf f n).length=n:=by simp [Lf]
theorem aR8 (f:Nat->Rn) {n i:Nat}(h:i<n):rI (Lf f n) i=f i:=Rg.rI (g:=⟨n,f⟩) h
theorem Lf_rI (L:List Rn):Lf (rI L) L.length=L:=Rg.L_of L
theorem bX8 {L:List Rn}{r:Rn}(hr:r.x0<r.x1) (h:∀ s,L.getLast?=some s->ltR s r):addR L r=L++[r]:=by
 rcases al5 L with rfl | ⟨P,s,rfl⟩
 ·rw [add_nil,lg hr]; rfl
 ·have hs:=h s (by simp);unfold ltR at hs;rw [az8,lg hr,lb (by omega)]
theorem bY2 {f:Nat->Rn}{n:Nat}{s:Rn}(h:(Lf f n).getLast?=some s):0<n/\s=f (n-1):=by
 cases n with
 | zero=>cases h
 | succ n=>
  rw [bC6] at h;simp at h;exact ⟨xG n,h.symm⟩
theorem bJ3 {f:Nat->Rn}{n:Nat}(hr:(f n).x0<(f n).x1) (h:0<n->ltR (f (n-1)) (f n)):addR (Lf f n) (f n)=Lf f (n+1):=by
 rw [bC6];refine bX8 hr (fun s hs=>?_);obtain ⟨h0,rfl⟩:=bY2 hs;exact h h0
def shR (dx dy:Int) (r:Rn):Rn:=⟨r.y+dy,r.x0+dx,r.x1+dx⟩
structure JoP (f:Nat->Rn) (n i:Nat) (L:List Rn):Prop where
 hi:i<=n
 hL:vld L
 hm:∀ y x,mem L y x=mem (Lf f i) y x
 ha:∀ k,i<=k->k<n->aft L (f k).y (f k).x0
end Rgn
set_option linter.unusedSimpArgs false
set_option linter.unusedVariables false
namespace Rge
open Go.Shelf Go.RowKit Go.Lib Go.Sort Num Rga
theorem aW2 {X:World}{vs:Array Value}{T n i:Nat}{v:Value}(hn:X.heap.size=n) (hv:vs[i]?=some v):(X.alloc (.cells vs T)).cell? ⟨n,i,none⟩=some v:=by
 subst hn;simp [hv]
end Rge
set_option linter.unusedSimpArgs false
set_option linter.unusedVariables false
namespace Rgb
open Go.RowKit Sx Num Aff Con Rga Rgl Rgm
set_option maxRecDepth 100000
end Rgb
set_option linter.unusedSimpArgs false
set_option linter.unusedVariables false
namespace Rgc
open Go.RowKit Sx Num Aff Con Rga Rgl Rgm Rgn Rgb
set_option maxRecDepth 100000
def okP (s:SV):SV:= .tup 2 (lst [s,.int .i64 0])
theorem bnd {L:List Rn}(h:vld L):L.length<=4294967296:=xh (aS0 h) (by decide)
theorem bndg {g:Rg}(h:vld g.L):g.n<=4294967296:=Rg.len g▸bnd h
abbrev eqR:List (TypeId×List CK):=[(70,[.int,.int,.int])]
theorem b70:bd4 Tryz.prog eqR:=⟨aw1 (m:=3) (by kernel_rfl) (by kernel_rfl) rfl (by decide) (by kernel_rfl),trivial⟩
structure EqG where
 a:Rg
 b:Rg
def EqG.ok (g:EqG):Prop:=vld g.a.L/\g.a.L=g.b.L
def bp1 (g:EqG):Inv:=⟨Nat,fun i=>i<=g.a.n,fun i=>⟨[(0,rgS g.a),(1,rgS g.b),(12,.int .i64 g.a.n),(13,.int .i64 i)],[]⟩,fun i=>g.a.n-i⟩
def bZ9:FSpec:=aa3 33 (γ:=EqG) (fun | [s,t]=>some ⟨⟨ai9 s,rgD s⟩,⟨ai9 t,rgD t⟩⟩ | _=>none) (fun g=>[rgS g.a,rgS g.b]) EqG.ok (fun _=> .lit true)
theorem b34:aa2 Tryz.prog bZ9:=by
 refine seW (specs:=[]) trivial (eqs:=eqR) b70 Tryz.func33 (fun g=>(⟨[(4,.inv (bp1 g))],[]⟩:Ann)) ?_;rintro g hg;refine ab2 (B:=let A:=Sx.Ask;let z5:=(True/\True/\A (false=true));let z4:=(↑g.a.n:Int);let z0:=(IntKind.i64=IntKind.i64);let q0:=fun p:Int=>A z0/\A (p=p);let z2:=(A (g.b.n=g.b.n)/\∀ i:Nat,i<g.b.n->((True/\q0 ((g.b.f i).y))/\q0 ((g.b.f i).x0))/\q0 ((g.b.f i).x1));let z1:=(A (g.a.n=g.a.n)/\∀ i:Nat,i<g.a.n->((True/\q0 ((g.a.f i).y))/\q0 ((g.a.f i).x0))/\q0 ((g.a.f i).x1));True/\True/\True/\True/\True/\True/\Br (decide (z4≠(↑g.b.n:Int))) z5 (True/\True/\True/\(∃ g_1:Nat,A ((bp1 g).pre g_1)/\(z1/\z2/\(q0 z4)/\(A z0/\A ((0:Int)=(↑g_1:Int)))/\True)/\True)/\∀ g_1:Nat,let z3:=(↑g_1:Int); (bp1 g).pre g_1->True/\Br (decide (z3<z4)) (True/\True/\True/\True/\A ((0:Int)<=z3/\z3<z4)/\True/\True/\True/\A ((0:Int)<=z3/\z3<(↑g.b.n:Int))/\True/\True/\Br (!(decide ((g.a.f z3.toNat).y=(g.b.f z3.toNat).y)&&(decide ((g.a.f z3.toNat).x0=(g.b.f z3.toNat).x0)&&(decide ((g.a.f z3.toNat).x1=(g.b.f z3.toNat).x1)&&true)))) z5 (A ((-9223372036854775808:Int)<=z3+(1:Int)/\z3+(1:Int)<=(9223372036854775807:Int))/\True/\∃ (g':Nat),A ((bp1 g).pre g')/\((z1/\z2/\(q0 z4)/\(A z0/\A (z3+(1:Int)=(↑g':Int)))/\True)/\True)/\A ((bp1 g).meas g'<(bp1 g).meas g_1))) (True/\True/\A (true=true)))) (by kernel_rfl) ?_;simp only [cln];obtain ⟨va,he⟩:=hg;have hn:g.a.n=g.b.n:=by rw [<-Rg.len g.a,<-Rg.len g.b,he]
 have hf:∀ i,i<g.a.n->g.a.f i=g.b.f i:=fun i hi=>by rw [<-Rg.rI hi,he,Rg.rI (g:=g.b) (i:=i) (by omega)]
 have hb:=bndg va;refine ⟨fun h=>absurd (congrArg Int.ofNat hn) h,fun _=>⟨⟨0,lm _,rfl⟩,fun i hi hlt=>?_⟩⟩;have hi:i<=g.a.n:=hi;have z:((i:Int)).toNat=i:=rfl;rw [z,hf i (by omega),lk rfl,lk rfl,lk rfl];refine ⟨by omega,by omega,fun h=>absurd h (by decide),fun _=>⟨by omega,i+1,(by omega:i+1<=g.a.n),rfl,?_⟩⟩;show g.a.n-(i+1)<g.a.n-i;omega
end Rgc
set_option linter.unusedSimpArgs false
set_option linter.unusedVariables false
namespace Rgd
open Go.RowKit Sx Num Aff Con Rga Rgl Rgm Rgn Rgb Rgc
set_option maxRecDepth 100000
structure ShG where
 g:Rg
 dx:Int
 dy:Int
def ShG.f (h:ShG):Nat->Rn:=fun i=>shR h.dx h.dy (h.g.f i)
structure ShG.ok (h:ShG):Prop where
 v:vld h.g.L
 x : -16384<=h.dx/\h.dx<=16384
 y : -16384<=h.dy/\h.dy<=16384
 r:∀ i,i<h.g.n->okR (h.f i)
def ShG.L (h:ShG):List Rn:=Lf h.f h.g.n
structure ReG where
 x0:Int
 y0:Int
 x1:Int
 y1:Int
def ReG.f (h:ReG):Nat->Rn:=fun k=>⟨h.y0+k,h.x0,h.x1⟩
def ReG.n (h:ReG):Nat:=(h.y1-h.y0).toNat
structure ReG.ok (h:ReG):Prop where
 x0 : -8192<=h.x0/\h.x0<=8192
 y0 : -8192<=h.y0/\h.y0<=8192
 x1 : -8192<=h.x1/\h.x1<=8192
 y1 : -8192<=h.y1/\h.y1<=8192
 x:h.x0<h.x1
 y:h.y0<=h.y1
def bl5 (h:ReG):Inv:=⟨Nat,fun i=>h.y0+i<=h.y1,fun i=>⟨[(0,.int .i64 h.x0),(2,.int .i64 h.x1),(3,.int .i64 h.y1),(10,.own 0 0),(11,.int .i64 (h.y0+i))],
  [.cells 1 (lst [.osl 1 0]) 111,.row 0 i 3 (fun k=>lst (rnL (h.f k))) 70]⟩,fun i=>h.n-i⟩
def bK5:FSpec:=aa3 47 (γ:=ReG) (fun | [.int _ x0,.int _ y0,.int _ x1,.int _ y1]=>some ⟨x0,y0,x1,y1⟩ | _=>none) (fun h=>[.int .i64 h.x0,.int .i64 h.y0,.int .i64 h.x1,.int .i64 h.y1]) ReG.ok (fun h=>okP (runsS (Lf h.f h.n)))
theorem bS1:aa2 Tryz.prog bK5:=by
 refine ssW (specs:=[aF3,bM1]) (⟨aI8,bT8,trivial⟩) Tryz.func47 (fun g=>(⟨[(7,.inv (bl5 g))],[(6,[.ownC 0 0 70 3])]⟩:Ann)) ?_;rintro g hg;refine ab2 (B:=let T3:=fun p:Prop=>True/\True/\True/\p;let T4:=fun p:Prop=>True/\True/\True/\True/\p;let K:=Br;let A:=Sx.Ask;let z9:=((0:Nat)=(0:Nat));let z7:=((3:Int)=(0:Int));let z5:=(Lf g.f g.n);let z2:=(True/\A (z5.length=(0:Nat)));let z0:=(IntKind.i64=IntKind.i64);let q0:=fun p:Int=>A z0/\A (p=p);let z6:=(q0 g.y1);let z4:=(q0 g.x1);let z3:=(q0 g.x0);T3 (((z3/\True)/\A True)/\True/\True/\K (!(decide ((-8192:Int)<=g.x0)&&decide (g.x0<=(8192:Int)))) (T4 (T4 (z2/\A z0/\A z7))) (True/\(((q0 g.y0)/\True)/\A True)/\T3 (K (!(decide ((-8192:Int)<=g.y0)&&decide (g.y0<=(8192:Int)))) (T4 (True/\True/\z2/\A z0/\A z7)) (True/\((z4/\True)/\A True)/\T3 (K (!(decide ((-8192:Int)<=g.x1)&&decide (g.x1<=(8192:Int)))) (T4 (z2/\A z0/\A z7)) (True/\((z6/\True)/\A True)/\True/\True/\K (!(decide ((-8192:Int)<=g.y1)&&decide (g.y1<=(8192:Int)))) (T3 (z2/\A z0/\A z7)) (T4 (K (decide (g.x1<g.x0)) (T4 (z2/\A z0/\A ((18:Int)=(0:Int)))) (T4 (K (decide (g.y1<g.y0)) (T3 (z2/\A z0/\A ((18:Int)=(0:Int)))) (T3 ((∃ g_1:Nat,A ((bl5 g).pre g_1)/\(z3/\z4/\z6/\A z9/\(A z0/\A (g.y0=g.y0+(↑g_1:Int)))/\True)/\(True/\True)/\(A ((0:Nat)=g_1)/\∀ i:Nat,i<g_1->((True/\False)/\False)/\False)/\True)/\∀ g_1:Nat,let z8:=(↑g_1:Int);let z1:=(Rga.AdG.mk g_1 (fun (i:Nat)=>Rn.mk (g.y0+(↑i:Int)) g.x0 g.x1) (Rn.mk (g.y0+z8) g.x0 g.x1)); (bl5 g).pre g_1->T3 (K (decide (g.y0+z8<g.y1)) (T3 (((True/\(A z9/\(q0 (g.y0+z8))/\z3/\z4/\True)/\(True/\True)/\(A (g_1=g_1)/\∀ i:Nat,i<g_1->((True/\q0 (g.y0+(↑i:Int)))/\q0 g.x0)/\q0 g.x1)/\True)/\A (g_1<=(4294967296:Nat)))/\True/\A ((-9223372036854775808:Int)<=g.y0+z8+(1:Int)/\g.y0+z8+(1:Int)<=(9223372036854775807:Int))/\True/\∃ (g':Nat),A ((bl5 g).pre g')/\((z3/\z4/\z6/\A z9/\(A z0/\A (g.y0+z8+(1:Int)=g.y0+(↑g':Int)))/\True)/\(True/\True)/\(A (z1.L.length=g')/\∀ i:Nat,i<g'->((True/\A z0/\A ((Rga.rI z1.L i).y=g.y0+(↑i:Int)))/\A z0/\A ((Rga.rI z1.L i).x0=g.x0))/\A z0/\A ((Rga.rI z1.L i).x1=g.x1))/\True)/\A ((bl5 g).meas g'<(bl5 g).meas g_1))) (T4 (True/\(True/\A (g_1=z5.length)/\∀ i:Nat,i<z5.length->((True/\A z0/\A (g.y0+(↑i:Int)=(Rga.rI z5 i).y))/\A z0/\A (g.x0=(Rga.rI z5 i).x0))/\A z0/\A (g.x1=(Rga.rI z5 i).x1))/\q0 ((0:Int)))))))))))))))))) (by kernel_rfl) ?_;simp only [cln];obtain ⟨⟨a1,a2⟩,⟨b1,b2⟩,⟨c1,c2⟩,⟨d1,d2⟩,hx,hy⟩:=hg;rw [lk a1,lk a2,lk b1,lk b2,lk c1,lk c2,lk d1,lk d2];refine ⟨fun h=>absurd h (by decide),fun _=>⟨fun h=>absurd h (by decide),fun _=>⟨fun h=>absurd h (by decide),fun _=>⟨fun h=>absurd h (by decide),fun _=>⟨fun h=>by omega,fun _=>⟨fun h=>by omega,fun _=>⟨⟨0,by show g.y0+0<=g.y1; omega,by omega,rfl,fun k hk=>absurd hk (lj _)⟩,fun i hi=>⟨fun hlt=>?_,fun hge=>?_⟩⟩⟩⟩⟩⟩⟩⟩
 ·have hi:g.y0+i<=g.y1:=hi;have e:AdG.L ⟨i,fun i=>⟨g.y0+i,g.x0,g.x1⟩,⟨g.y0+i,g.x0,g.x1⟩⟩=Lf g.f (i+1):=by
   refine bJ3 (f:=g.f) (n:=i) hx (fun h0=> .inl ?_);show g.y0+((i-1:Nat):Int)<g.y0+i;omega
  refine ⟨by omega,by omega,i+1,?_,⟨by omega,?_,fun k hk=>?_⟩,?_⟩
  ·show g.y0+((i+1:Nat):Int)<=g.y1;omega
  ·rw [e,aE4]
  ·rw [e,aR8 g.f hk];exact ⟨⟨rfl,rfl⟩,rfl⟩
  ·show (g.y1-g.y0).toNat-(i+1)<(g.y1-g.y0).toNat-i;omega
 ·have hi:g.y0+i<=g.y1:=hi;have e:i=g.n:=by unfold ReG.n; omega
  subst e;rw [aE4];refine ⟨rfl,fun k hk=>?_⟩;rw [aR8 g.f hk];exact ⟨⟨rfl,rfl⟩,rfl⟩
abbrev lB:List Rn:=[⟨1,2,4⟩,⟨2,2,4⟩]
theorem eB:Lf (ReG.f ⟨2,1,4,3⟩) (ReG.n ⟨2,1,4,3⟩)=lB:=rfl
end Rgd
end Go.Proofs.YthappngbapbkfaaGreat
namespace Go.Proofs
open Go.Shelf
def Tryz.a88:Go.Shelf.Ren:=⟨fun | 6=>55 | 15=>78 | 14=>77 | 28=>105 | 29=>106 | 20=>97 | 21=>98 | 22=>99 | 23=>100 | 24=>101 | 25=>102 | 26=>103 | 27=>104 | 46=>125 | 47=>126 | 48=>127 | 49=>128 | 50=>129 | 57=>146 | n=>n,fun | 22=>26 | 24=>70 | 25=>104 | 3=>3 | 39=>143 | 0=>0 | 53=>184 | 55=>186 | 4=>4 | 46=>178 | 45=>177 | 50=>101 | 5=>5 | 9=>9 | 66=>199 | 70=>203 | 76=>208 | 77=>209 | n=>n,fun | n=>n⟩
theorem Tryz.sortrun:Go.Proofs.SlLaysF0.n6 Tryz.prog Tryz.a88:={
  mixed:=by kernel_rfl
  f6:=⟨Tryz.f55.name,by decide,Tryz.func55.trans (congrArg some (by kernel_rfl))⟩
  f14:=⟨Tryz.f77.name,by decide,Tryz.func77.trans (congrArg some (by kernel_rfl))⟩
  f15:=Tryz.func78.trans (congrArg some (by kernel_rfl))
  f20:=⟨Tryz.f97.name,by decide,Tryz.func97.trans (congrArg some (by kernel_rfl))⟩
  f21:=⟨Tryz.f98.name,by decide,Tryz.func98.trans (congrArg some (by kernel_rfl))⟩
  f22:=⟨Tryz.f99.name,by decide,Tryz.func99.trans (congrArg some (by kernel_rfl))⟩
  f23:=⟨Tryz.f100.name,by decide,Tryz.func100.trans (congrArg some (by kernel_rfl))⟩
  f24:=⟨Tryz.f101.name,by decide,Tryz.func101.trans (congrArg some (by kernel_rfl))⟩
  f25:=⟨Tryz.f102.name,by decide,Tryz.func102.trans (congrArg some (by kernel_rfl))⟩
  f26:=⟨Tryz.f103.name,by decide,Tryz.func103.trans (congrArg some (by kernel_rfl))⟩
  f27:=⟨Tryz.f104.name,by decide,Tryz.func104.trans (congrArg some (by kernel_rfl))⟩
  f28:=Tryz.func105.trans (congrArg some (by kernel_rfl))
  f29:=Tryz.func106.trans (congrArg some (by kernel_rfl))
  f46:=⟨Tryz.f125.name,by decide,Tryz.func125.trans (congrArg some (by kernel_rfl))⟩
  f47:=Tryz.func126.trans (congrArg some (by kernel_rfl))
  f48:=Tryz.func127.trans (congrArg some (by kernel_rfl))
  f49:=⟨Tryz.f128.name,by decide,Tryz.func128.trans (congrArg some (by kernel_rfl))⟩
  f50:=⟨Tryz.f129.name,by decide,Tryz.func129.trans (congrArg some (by kernel_rfl))⟩
  f57:=⟨Tryz.f146.name,by decide,Tryz.func146.trans (congrArg some (by kernel_rfl))⟩
  t0:=Tryz.underlying0
  a0:=Tryz.isAgg0
  z0:=Tryz.sizeOf0
  v0:=Tryz.zeroValue0
  t3:=Tryz.underlying3
  a3:=Tryz.isAgg3
  z3:=Tryz.sizeOf3
  v3:=Tryz.zeroValue3
  t4:=Tryz.underlying4
  a4:=Tryz.isAgg4
  z4:=Tryz.sizeOf4
  v4:=Tryz.zeroValue4
  t5:=Tryz.underlying5
  a5:=Tryz.isAgg5
  z5:=Tryz.sizeOf5
  v5:=Tryz.zeroValue5
  t9:=Tryz.underlying9
  a9:=Tryz.isAgg9
  z9:=Tryz.sizeOf9
  v9:=Tryz.zeroValue9
  t22:=Tryz.underlying26
  a22:=Tryz.isAgg26
  z22:=Tryz.sizeOf26
  v22:=Tryz.zeroValue26
  t25:=Tryz.underlying104
  a25:=Tryz.isAgg104
  z25:=Tryz.sizeOf104
  v25:=Tryz.zeroValue104
  t39:=Tryz.underlying143
  a39:=Tryz.isAgg143
  z39:=Tryz.sizeOf143
  v39:=Tryz.zeroValue143
  t45:=Tryz.underlying177
  a45:=Tryz.isAgg177
  z45:=Tryz.sizeOf177
  v45:=Tryz.zeroValue177
  t46:=Tryz.underlying178
  a46:=Tryz.isAgg178
  z46:=Tryz.sizeOf178
  v46:=Tryz.zeroValue178
  t50:=Tryz.underlying101
  a50:=Tryz.isAgg101
  z50:=Tryz.sizeOf101
  v50:=Tryz.zeroValue101
  t53:=Tryz.underlying184
  a53:=Tryz.isAgg184
  z53:=Tryz.sizeOf184
  v53:=Tryz.zeroValue184
  t55:=Tryz.underlying186
  a55:=Tryz.isAgg186
  z55:=Tryz.sizeOf186
  v55:=Tryz.zeroValue186
  t66:=Tryz.underlying199
  a66:=Tryz.isAgg199
  z66:=Tryz.sizeOf199
  v66:=Tryz.zeroValue199
  t70:=Tryz.underlying203
  a70:=Tryz.isAgg203
  z70:=Tryz.sizeOf203
  v70:=Tryz.zeroValue203
  t76:=Tryz.underlying208
  a76:=Tryz.isAgg208
  z76:=Tryz.sizeOf208
  v76:=Tryz.zeroValue208
  t77:=Tryz.underlying209
  a77:=Tryz.isAgg209
  z77:=Tryz.sizeOf209
  v77:=Tryz.zeroValue209 }
end Go.Proofs
namespace Go.Proofs.YthappngbapbkfaaGreat
set_option linter.unusedSimpArgs false
set_option linter.unusedVariables false
namespace Rgf
open Go.Shelf Go.RowKit Go.Lib Go.Sort Sx Num Rga Rgl Rgm Rgn Rge
theorem bk4 {P:Program}{f:FuncId}(hent:∀ args w,(callFunc f args).run P w = .ok (.enter f args) w)
  {paths:List NP}{γ:Type}{dec:List SV->List SO->Option γ}{args:γ->List SV}{objs:γ->List SO}{pre:γ->Prop}{res:γ->SV}{post:γ->List SO}
  (h:∀ g,pre g->∀ (vals:Array Value) (w:World) (X:Fr) (E:Env),(∀ k,X.nm k≠none->k<paths.length)->Rep w X (objs g) E w->vals.size=(args g).length->
   (∀ i,i<(args g).length->R w (Xo X E (objs g)) E ((args g).getD i .any) (vals.getD i undef))->
   Calls P f vals w fun e w'=>∃ v Es,e = .returned v/\Rep w X (post g) Es w'/\R w' (Xo X Es (post g)) Es (res g) v):aa2 P (ac3 f paths dec args objs pre res post):=by
 refine ⟨hent,fun l H HF nm y he hns hrun=>?_,fun l H nm y hrun hask w0 X0 E w hrep hfree vals ha=>?_⟩
 ·simp only [ac3] at hrun ⊢;split at hrun
  case h_2=>cases hrun
  rename_i ks hks;split at hrun
  case h_2=>cases hrun
  rename_i hnd;simp only [lr] at hnd;rw [av4 he paths [] ks hks];simp only [aP1 he hnd.2,hnd.1,hnd.2,Bool.and_self];exact hrun
 ·simp only [ac3] at hrun;split at hrun
  case h_2=>cases hrun
  rename_i ks hks;split at hrun
  case h_2=>cases hrun
  rename_i hnd;simp only [lr] at hnd;obtain ⟨hn,hal⟩:=hnd;split at hrun
  case h_2=>cases hrun
  rename_i g hdec;cases hrun;obtain ⟨⟨hle,⟨hpre⟩⟩,hholes⟩:=ap6 hask;obtain ⟨hkn,hkl⟩:=aq3 hrep ha paths [] ks (fun k hk=>by cases hk) (aK1 hholes) hks;have hkl':ks.length=paths.length:=by simpa using hkl
  unfold bB9 at hle;split at hle
  case h_2=>exact hle.elim
  rename_i hll;have hll':=lx hll;rw [lV] at hll';obtain ⟨hs,hxs⟩:=hrep.sml hn hal;have hv:=hrep.aX1 hal;have hnm:∀ k,(smlF X0 H E ks).nm k≠none->k<paths.length:=fun k hk=>by
   cases he:smlE E ks k with
   | none=>exact absurd he hk
   | some e=>
    obtain ⟨k',hk',_⟩:=am8 he;have:=(lU.1 hk').1
    omega
  have hT:=ao8 (args g).length vals (l.map (sml (aa5 H ks) ks)) w (Xo (smlF X0 H E ks) (smlE E ks) ((aa5 H ks).map (smlO (aa5 H ks) ks))) (smlE E ks) (by rw [ha.1,lV]) (by rw [lV,hll']; exact lh _) (fun i hi=>by
   rw [lV] at hi;have e1:(l.map (sml (aa5 H ks) ks)).getD i .any=sml (aa5 H ks) ks (l.getD i .any):=by
    rw [la,lR,la,ln hi]; rfl
   rw [e1];exact bd2 hxs hv (ha.2 i hi))
  have hvs:vals.size=(args g).length:=by rw [ha.1,hll']
  have hst:StR w (smlF X0 H E ks) (args g).length ⟨ar3 0 (l.map (sml (aa5 H ks) ks)),(aa5 H ks).map (smlO (aa5 H ks) ks)⟩ ⟨vals++Array.replicate ((args g).length-vals.size) undef,[]⟩ w:=⟨smlE E ks,hs,hT.1,aA0.nil _ _ _,hT.2⟩
  have hst2:=hst.le (m:=((aa5 H ks).map (smlO (aa5 H ks) ks)).length) (fun k hk=>by rw [lV,aa5,lV,hkl']; exact hnm k hk) hle.get.1 hle.get.2;obtain ⟨E2,hrep2,hsz2,_,hT2⟩:=hst2;refine (h g hpre vals w (smlF X0 H E ks) E2 hnm hrep2 hvs (fun i hi=>?_)).mono ?_
  ·have:=hT2 i hi
   rw [aB3 _ _ _ (lm _),ue] at this;rw [hvs,xB] at this;simpa using this
  ·rintro e w' ⟨v,Es,rfl,h3,h4⟩;exact ⟨v,rfl,Goes.bN2 hrep hn hkn hal h3 h4⟩
instance:Inhabited Rn:=⟨⟨0,0,0⟩⟩
def cl (v:Int):Int:=if v < -8192 then -8192 else if 8192<v then 8192 else v
theorem a56 {v:Int}(h1 : -8192<=v) (h2:v<=8192):cl v=v:=by
 unfold cl;rw [lb (by omega),lb (by omega)]
theorem cl_b (v:Int) : -8192<=cl v/\cl v<=8192:=by
 unfold cl;split
 ·omega
 ·split<;>omega
def enR (r:Rn):List Value:=[.int .i64 (cl r.y),.int .i64 (cl r.x0),.int .i64 (cl r.x1)]
def cfR (x y:Rn):Int:=orI (cl x.y-cl y.y) (cl x.x0-cl y.x0)
theorem lt_iff (x y:Rn):ltOf cfR x y=true<->(cl x.y<cl y.y\/(cl x.y=cl y.y/\cl x.x0<cl y.x0)):=by
 unfold ltOf cfR orI;rw [decide_eq_true_iff];split<;>omega
theorem aB2 (x y:Rn):ltOf cfR x y=false<->¬ (cl x.y<cl y.y\/(cl x.y=cl y.y/\cl x.x0<cl y.x0)):=by
 rw [<-lt_iff,lad]
theorem swo:SWO (ltOf cfR) where
 irrefl x:=by rw [aB2]; omega
 trans x y z h1 h2:=by rw [lt_iff] at *; omega
 ntrans x y z h1 h2:=by rw [aB2] at *; omega
def srtA (d:Array Rn):Array Rn:=pdq (ltOf cfR) d 0 d.size (Lib.bitLen d.size) true true
def srt (g:Rg):List Rn:=(srtA g.L.toArray).toList
theorem al8 (d:Array Rn):PermIn 0 d.size d (srtA d)/\SortedIn (ltOf cfR) 0 d.size (srtA d):=
 pdq_sorts (ltOf cfR) swo d 0 d.size (Lib.bitLen d.size) true true (lm _) (lh _) (Or.inl rfl)
theorem aS6 (g:Rg):(srt g).length=g.n:=by
 have:=(al8 g.L.toArray).1.1
 unfold srt;rw [ly,this,xy,Rg.len]
def soD:List SV->List SO->Option Rg
 | [_,.fn _ _ _],[.row _ n _ g _]=>some ⟨n,fun i=>rnD (g i)⟩
 | _,_=>none
def rowS (ver:Nat) (n:Nat) (f:Nat->Rn):SO:= .row ver n 3 (fun i=>lst (rnL (f i))) 70
def bs1:FSpec:=ac3 55 [.arg 0] soD (fun _=>[.osl 0 0,.fn 56 0 (lst [])]) (fun g=>[rowS 0 g.n g.f]) (fun g=>(∀ i,i<g.n->okR (g.f i))/\g.n<=4294967296) (fun _=> .tup 0 (lst [])) (fun g=>[rowS 0 g.n (rI (srt g))])
end Rgf
end Go.Proofs.YthappngbapbkfaaGreat
namespace Go.Proofs
open Go.Shelf
def Tryz.a89:Go.Shelf.Ren:=⟨fun | 6=>68 | 15=>78 | 14=>93 | 28=>105 | 29=>106 | 20=>116 | 21=>117 | 22=>118 | 23=>119 | 24=>120 | 25=>121 | 26=>122 | 27=>123 | 46=>143 | 47=>126 | 48=>127 | 49=>144 | 50=>145 | 57=>147 | n=>n,fun | 22=>144 | 24=>146 | 25=>148 | 3=>3 | 39=>143 | 0=>0 | 53=>184 | 55=>186 | 4=>4 | 46=>178 | 45=>177 | 50=>101 | 5=>5 | 9=>9 | 66=>199 | 70=>203 | 76=>208 | 77=>209 | n=>n,fun | n=>n⟩
theorem Tryz.bt4:Go.Proofs.SlLaysF0.n6 Tryz.prog Tryz.a89:={
  mixed:=by kernel_rfl
  f6:=⟨Tryz.f68.name,by decide,Tryz.func68.trans (congrArg some (by kernel_rfl))⟩
  f14:=⟨Tryz.f93.name,by decide,Tryz.func93.trans (congrArg some (by kernel_rfl))⟩
  f15:=Tryz.func78.trans (congrArg some (by kernel_rfl))
  f20:=⟨Tryz.f116.name,by decide,Tryz.func116.trans (congrArg some (by kernel_rfl))⟩
  f21:=⟨Tryz.f117.name,by decide,Tryz.func117.trans (congrArg some (by kernel_rfl))⟩
  f22:=⟨Tryz.f118.name,by decide,Tryz.func118.trans (congrArg some (by kernel_rfl))⟩
  f23:=⟨Tryz.f119.name,by decide,Tryz.func119.trans (congrArg some (by kernel_rfl))⟩
  f24:=⟨Tryz.f120.name,by decide,Tryz.func120.trans (congrArg some (by kernel_rfl))⟩
  f25:=⟨Tryz.f121.name,by decide,Tryz.func121.trans (congrArg some (by kernel_rfl))⟩
  f26:=⟨Tryz.f122.name,by decide,Tryz.func122.trans (congrArg some (by kernel_rfl))⟩
  f27:=⟨Tryz.f123.name,by decide,Tryz.func123.trans (congrArg some (by kernel_rfl))⟩
  f28:=Tryz.func105.trans (congrArg some (by kernel_rfl))
  f29:=Tryz.func106.trans (congrArg some (by kernel_rfl))
  f46:=⟨Tryz.f143.name,by decide,Tryz.func143.trans (congrArg some (by kernel_rfl))⟩
  f47:=Tryz.func126.trans (congrArg some (by kernel_rfl))
  f48:=Tryz.func127.trans (congrArg some (by kernel_rfl))
  f49:=⟨Tryz.f144.name,by decide,Tryz.func144.trans (congrArg some (by kernel_rfl))⟩
  f50:=⟨Tryz.f145.name,by decide,Tryz.func145.trans (congrArg some (by kernel_rfl))⟩
  f57:=⟨Tryz.f147.name,by decide,Tryz.func147.trans (congrArg some (by kernel_rfl))⟩
  t0:=Tryz.underlying0
  a0:=Tryz.isAgg0
  z0:=Tryz.sizeOf0
  v0:=Tryz.zeroValue0
  t3:=Tryz.underlying3
  a3:=Tryz.isAgg3
  z3:=Tryz.sizeOf3
  v3:=Tryz.zeroValue3
  t4:=Tryz.underlying4
  a4:=Tryz.isAgg4
  z4:=Tryz.sizeOf4
  v4:=Tryz.zeroValue4
  t5:=Tryz.underlying5
  a5:=Tryz.isAgg5
  z5:=Tryz.sizeOf5
  v5:=Tryz.zeroValue5
  t9:=Tryz.underlying9
  a9:=Tryz.isAgg9
  z9:=Tryz.sizeOf9
  v9:=Tryz.zeroValue9
  t22:=Tryz.underlying144
  a22:=Tryz.isAgg144
  z22:=Tryz.sizeOf144
  v22:=Tryz.zeroValue144
  t25:=Tryz.underlying148
  a25:=Tryz.isAgg148
  z25:=Tryz.sizeOf148
  v25:=Tryz.zeroValue148
  t39:=Tryz.underlying143
  a39:=Tryz.isAgg143
  z39:=Tryz.sizeOf143
  v39:=Tryz.zeroValue143
  t45:=Tryz.underlying177
  a45:=Tryz.isAgg177
  z45:=Tryz.sizeOf177
  v45:=Tryz.zeroValue177
  t46:=Tryz.underlying178
  a46:=Tryz.isAgg178
  z46:=Tryz.sizeOf178
  v46:=Tryz.zeroValue178
  t50:=Tryz.underlying101
  a50:=Tryz.isAgg101
  z50:=Tryz.sizeOf101
  v50:=Tryz.zeroValue101
  t53:=Tryz.underlying184
  a53:=Tryz.isAgg184
  z53:=Tryz.sizeOf184
  v53:=Tryz.zeroValue184
  t55:=Tryz.underlying186
  a55:=Tryz.isAgg186
  z55:=Tryz.sizeOf186
  v55:=Tryz.zeroValue186
  t66:=Tryz.underlying199
  a66:=Tryz.isAgg199
  z66:=Tryz.sizeOf199
  v66:=Tryz.zeroValue199
  t70:=Tryz.underlying203
  a70:=Tryz.isAgg203
  z70:=Tryz.sizeOf203
  v70:=Tryz.zeroValue203
  t76:=Tryz.underlying208
  a76:=Tryz.isAgg208
  z76:=Tryz.sizeOf208
  v76:=Tryz.zeroValue208
  t77:=Tryz.underlying209
  a77:=Tryz.isAgg209
  z77:=Tryz.sizeOf209
  v77:=Tryz.zeroValue209 }
end Go.Proofs
namespace Go.Proofs.YthappngbapbkfaaGreat
set_option linter.unusedSimpArgs false
set_option linter.unusedVariables false
namespace Ows
open Go.Shelf Go.RowKit Go.Lib Go.Sort Sx Num Rga Rgl Rgm Rgn Rge Rgf
set_option maxRecDepth 100000
structure Ow where
 y:Int
 x0:Int
 x1:Int
 k:Int
def owL (o:Ow):List SV:=[.int .i64 o.y,.int .i64 o.x0,.int .i64 o.x1,.int .i64 o.k]
def owD (g:Nat->SV):Ow:=⟨Sx.intOf (g 0),Sx.intOf (g 1),Sx.intOf (g 2),Sx.intOf (g 3)⟩
def oI (L:List Ow) (i:Nat):Ow:=L.getD i ⟨0,0,0,0⟩
structure Og where
 n:Nat
 f:Nat->Ow
def Og.L (g:Og):List Ow:=(List.range g.n).map g.f
theorem Og.len (g:Og):g.L.length=g.n:=by simp [Og.L]
theorem Og.oI {g:Og}{i:Nat}(h:i<g.n):oI g.L i=g.f i:=by
 unfold Ows.oI Og.L;rw [la,lR,uG h];rfl
def okO (o:Ow):Prop:=((-8192<=o.y/\o.y<=8192)/\(-8192<=o.x0/\o.x0<=8192)/\ -8192<=o.x1/\o.x1<=8192)/\ -8192<=o.k/\o.k<=8192
def or3 (x y z:Int):Int:=if x=0 then (if y=0 then z else y) else x
theorem bF3 (x y z:Int) (b:Nat) (W:World) (h0:W.cell? ⟨b,0,none⟩=some (.int .i64 x)) (h1:W.cell? ⟨b,1,none⟩=some (.int .i64 y)) (h2:W.cell? ⟨b,2,none⟩=some (.int .i64 z)) :
  Calls Tryz.prog 57 #[.slice (some ⟨b,0,none⟩) 3 3] W fun e w'=>e = .returned (.int .i64 (or3 x y z))/\w'=W:=by
 by_cases hx:x=0
 ·by_cases hy:y=0
  ·have e:or3 x y z=z:=by unfold or3; rw [lg hx,lg hy]
   rw [e];clear e;subst hx;subst hy;by_cases hz:z=0
   ·subst hz;go_enter Tryz.func57,Tryz.ntmps57
    go_wp2
    refine wp_loop_rounds 4 ?_;rw [rounds_succ];go_wp2
    rw [rounds_succ];go_wp2
    rw [rounds_succ];go_wp2
    rw [rounds_succ];go_wp2
    go_ret
    exact ⟨rfl,rfl⟩
   ·go_enter Tryz.func57,Tryz.ntmps57
    go_wp2
    refine wp_loop_rounds 4 ?_;rw [rounds_succ];go_wp2
    rw [rounds_succ];go_wp2
    rw [rounds_succ];go_wp2
    go_ret
    exact ⟨rfl,rfl⟩
  ·have e:or3 x y z=y:=by unfold or3; rw [lg hx,lb hy]
   rw [e];clear e;subst hx;go_enter Tryz.func57,Tryz.ntmps57
   go_wp2
   refine wp_loop_rounds 4 ?_;rw [rounds_succ];go_wp2
   rw [rounds_succ];go_wp2
   go_ret
   exact ⟨rfl,rfl⟩
 ·have e:or3 x y z=x:=lb hx;rw [e];clear e;go_enter Tryz.func57,Tryz.ntmps57
  go_wp2
  refine wp_loop_rounds 4 ?_;rw [rounds_succ];go_wp2
  go_ret
  exact ⟨rfl,rfl⟩
theorem bI6 (a0 a1 a2 a3 b0 b1 b2 b3:Int) (W:World) (h0 : -9223372036854775808<=a0-b0/\a0-b0<=9223372036854775807) (h1 : -9223372036854775808<=a1-b1/\a1-b1<=9223372036854775807) (h2 : -9223372036854775808<=a3-b3/\a3-b3<=9223372036854775807) :
  Calls Tryz.prog 69 #[.agg #[.int .i64 a0,.int .i64 a1,.int .i64 a2,.int .i64 a3],.agg #[.int .i64 b0,.int .i64 b1,.int .i64 b2,.int .i64 b3]] W fun e w'=>e = .returned (.int .i64 (or3 (a0-b0) (a1-b1) (a3-b3)))/\∃ q os',w'=grow (W.drewN q) os':=by
 have hcon:=fun b W' h0 h1 h2=>bF3 (a0-b0) (a1-b1) (a3-b3) b W' h0 h1 h2
 generalize or3 (a0-b0) (a1-b1) (a3-b3)=r at hcon ⊢;go_enter Tryz.func69,Tryz.ntmps69
 go_wp2_with (go_at_call 57; refine (hcon _ _ (aW2 (by simp) rfl) (aW2 (by simp) rfl) (aW2 (by simp) rfl)).mono ?_; rintro e w' ⟨rfl,rfl⟩)
 go_ret
 exact ⟨rfl,0,_,by rw [alloc_eq_grow,alloc_eq_grow,alloc_eq_grow,grow_grow,grow_grow]; rfl⟩
instance:Inhabited Ow:=⟨⟨0,0,0,0⟩⟩
def enR (r:Ow):List Value:=[.int .i64 (cl r.y),.int .i64 (cl r.x0),.int .i64 (cl r.x1),.int .i64 (cl r.k)]
def cfR (x y:Ow):Int:=or3 (cl x.y-cl y.y) (cl x.x0-cl y.x0) (cl x.k-cl y.k)
theorem lt_iff (x y:Ow):ltOf cfR x y=true<->(cl x.y<cl y.y\/(cl x.y=cl y.y/\(cl x.x0<cl y.x0\/(cl x.x0=cl y.x0/\cl x.k<cl y.k)))):=by
 unfold ltOf cfR or3;rw [decide_eq_true_iff];split
 ·split<;>omega
 ·omega
theorem aB2 (x y:Ow):ltOf cfR x y=false<->¬ (cl x.y<cl y.y\/(cl x.y=cl y.y/\(cl x.x0<cl y.x0\/(cl x.x0=cl y.x0/\cl x.k<cl y.k)))):=by
 rw [<-lt_iff,lad]
theorem swo:SWO (ltOf cfR) where
 irrefl x:=by rw [aB2]; omega
 trans x y z h1 h2:=by rw [lt_iff] at *; omega
 ntrans x y z h1 h2:=by rw [aB2] at *; omega
theorem bW7 (blk off sz:Nat) (w:World):CmpLays Tryz.prog 69 #[] enR 4 cfR blk off sz w:=fun _ _ _ _ x y=>by
 have a1:=cl_b x.y; have a2:=cl_b y.y; have a3:=cl_b x.x0; have a4:=cl_b y.x0; have a5:=cl_b x.k; have a6:=cl_b y.k;exact bI6 (cl x.y) (cl x.x0) (cl x.x1) (cl x.k) (cl y.y) (cl y.x0) (cl y.x1) (cl y.k) _ (by omega) (by omega) (by omega)
def srtA (d:Array Ow):Array Ow:=pdq (ltOf cfR) d 0 d.size (Lib.bitLen d.size) true true
def srt (g:Og):List Ow:=(srtA g.L.toArray).toList
theorem al8 (d:Array Ow):PermIn 0 d.size d (srtA d)/\SortedIn (ltOf cfR) 0 d.size (srtA d):=
 pdq_sorts (ltOf cfR) swo d 0 d.size (Lib.bitLen d.size) true true (lm _) (lh _) (Or.inl rfl)
theorem aS6 (g:Og):(srt g).length=g.n:=by
 have:=(al8 g.L.toArray).1.1
 unfold srt;rw [ly,this,xy,Og.len]
theorem aS5 (g:Og):(srt g).Perm g.L:=by
 have h:=(al8 g.L.toArray).1;have h2:=h.2.2;have e1:((srtA g.L.toArray).extract 0 g.L.toArray.size)=srtA g.L.toArray:=by rw [<-h.1]; simp
 have e2:(g.L.toArray.extract 0 g.L.toArray.size)=g.L.toArray:=by simp
 rw [e1,e2] at h2;unfold srt;simpa using h2
theorem bk3 (g:Og) {i j:Nat}(hij:i<j) (hj:j<g.n):ltOf cfR (oI (srt g) j) (oI (srt g) i)=false:=by
 have h:=(al8 g.L.toArray).2 i j (lm _) hij (by rw [xy,Og.len]; exact hj);have hs:(srtA g.L.toArray).size=g.n:=by rw [(al8 g.L.toArray).1.1,xy,Og.len]
 have e:∀ k,k<g.n->oI (srt g) k=(srtA g.L.toArray)[k]!:=fun k hk=>by
  unfold oI srt;rw [getElem!_pos _ k (by omega),la,ln (by rw [ly]; omega)];simp
 rw [e i (by omega),e j hj];exact h
theorem bf4 {w w':World}{X:Fr}{E:Env}{n:Nat}{g g':Nat->Nat->SV}{T:TypeId}{v:Value}{us:Nat->Option Nat}(h:Rep w X [.row 0 n 4 g T] E w) (he:E 0=some (.slc 0 v us))
  (hos:w'.os=w.os) (htp:w'.tape=w.tape) (hout:w'.output=w.output) (hsz:w.heap.size<=w'.heap.size)
  (hblk:∀ k,k<w.heap.size->(∀ b,holds (.slc 0 v us) (.row 0 n 4 g T) b->k≠b)->w'.heap[k]?=w.heap[k]?)
  (hok:∃ xs,ah5 w' T 4 v n xs/\∀ i j,i<n->j<4->ab0 (xs.getD (i*4+j) undef)/\∀ X',R w' X' E0 (g' i j) (xs.getD (i*4+j) undef)) :
  Rep w X [.row 0 n 4 g' T] E w':=by
 have hd:∀ k e,E k=some e->k=0/\e = .slc 0 v us:=fun k e hk=>by
  have h1:=h.dom k e hk;have h0:k=0:=by simp at h1; omega
  subst h0;rw [he] at hk;exact ⟨rfl,(Option.some.inj hk).symm⟩
 have hh:∀ b,holds (.slc 0 v us) (.row 0 n 4 g' T) b->holds (.slc 0 v us) (.row 0 n 4 g T) b:=fun b hb=>hb
 refine ⟨⟨hos,htp,hout,hsz,fun k hk hdk=>hblk k hk (fun b hb hkb=>?_)⟩,h.x0,h.nm,h.dom,fun k e hk=>?_,fun k e b hk hb=>?_,fun k k' e e' b hk hk' hb hb'=>?_⟩
 ·rcases h.low 0 _ b he hb with h1 | h1
  ·omega
  ·exact hdk (hkb▸h1)
 ·obtain ⟨rfl,rfl⟩:=hd k e hk;obtain ⟨xs,h1,h2⟩:=hok;exact ⟨rfl,xs,h1,fun i j hi hj=>⟨(h2 i j hi hj).1,(h2 i j hi hj).2 _⟩⟩
 ·obtain ⟨rfl,rfl⟩:=hd k e hk;exact h.low 0 _ b he (hh b hb)
 ·rw [(hd k e hk).1,(hd k' e' hk').1]
theorem bk7 {w:World}{b:Nat}{cur:Array Value}{T:TypeId}(hb:w.heap[b]?=some (.cells cur T (0,0))) (m:Nat) (d:Array Ow) (os:Array Obj) :
  (sortWorldK enR 4 w b 0 m d os).heap[b]?=some (.cells (putCells id 0 (flatK enR 4 d) cur) T (0,0)):=by
 have hlt:b<w.heap.size:=lt_of_block hb;show ((w.heap.modify b (onCells (putCells id 0 (flatK enR 4 d))))++os)[b]?=_;rw [xP (by rw [Array.size_modify]; exact hlt),Array.getElem?_modify,lg rfl,hb];rfl
theorem bk6 {w:World}{b k:Nat}(hk:k<w.heap.size) (hne:k≠b) (m:Nat) (d:Array Ow) (os:Array Obj):(sortWorldK enR 4 w b 0 m d os).heap[k]?=w.heap[k]?:=by
 show ((w.heap.modify b (onCells (putCells id 0 (flatK enR 4 d))))++os)[k]?=_;rw [xP (by rw [Array.size_modify]; exact hk),Array.getElem?_modify,lb (xH hne)]
theorem bt5 (w:World) (b m:Nat) (d:Array Ow) (os:Array Obj):w.heap.size<=(sortWorldK enR 4 w b 0 m d os).heap.size:=by
 show _<=((w.heap.modify b (onCells (putCells id 0 (flatK enR 4 d))))++os).size;rw [Array.size_append,Array.size_modify];exact Nat.le_add_right _ _
theorem bf6 {r:Ow}{j:Nat}(hj:j<4) (P:SV->Value->Prop) (h0:P (.int .i64 r.y) (.int .i64 r.y)) (h1:P (.int .i64 r.x0) (.int .i64 r.x0)) (h2:P (.int .i64 r.x1) (.int .i64 r.x1)) (h3:P (.int .i64 r.k) (.int .i64 r.k)) (ok:okO r):P (lst (owL r) j) ((enR r)[j]!):=by
 obtain ⟨⟨⟨a1,a2⟩,⟨a3,a4⟩,a5,a6⟩,a7,a8⟩:=ok;unfold enR;rw [a56 a1 a2,a56 a3 a4,a56 a5 a6,a56 a7 a8];match j,hj with
 | 0,_=>exact h0
 | 1,_=>exact h1
 | 2,_=>exact h2
 | 3,_=>exact h3
def soD:List SV->List SO->Option Og
 | [_,.fn _ _ _],[.row _ n _ g _]=>some ⟨n,fun i=>owD (g i)⟩
 | _,_=>none
def rowW (ver:Nat) (n:Nat) (f:Nat->Ow):SO:= .row ver n 4 (fun i=>lst (owL (f i))) 146
def bs1:FSpec:=ac3 68 [.arg 0] soD (fun _=>[.osl 0 0,.fn 69 0 (lst [])]) (fun g=>[rowW 0 g.n g.f]) (fun g=>(∀ i,i<g.n->okO (g.f i))/\g.n<=4294967296) (fun _=> .tup 0 (lst [])) (fun g=>[rowW 0 g.n (oI (srt g))])
theorem bR8:aa2 Tryz.prog bs1:=by
 refine bk4 (enters_of Tryz.func68 (by kernel_rfl) rfl) (fun g hg vals w X E hnm hrep hsz hr=>?_);obtain ⟨hok,hn⟩:=hg;have h0:=hr 0 (by show 0<2; decide);have h1:=hr 1 (by show 1<2; decide);obtain ⟨v0,v1,rfl⟩:∃ v0 v1,vals = #[v0,v1]:=by
  have hs:vals.size=2:=hsz;exact ⟨vals[0],vals[1],by
   apply Array.ext
   ·exact hs
   ·intro i hi1 hi2;have:i=0\/i=1:=by omega
    rcases this with rfl | rfl<;>rfl⟩
 have h0:R w (Xo X E [rowW 0 g.n g.f]) E (.osl 0 0) v0:=h0;have h1:R w (Xo X E [rowW 0 g.n g.f]) E (.fn 69 0 (lst [])) v1:=h1;have hv1:v1 = .func (.func 69) #[] #[]:=by
  cases h1 with
  | fn hs hr=>rw [Array.size_eq_zero_iff.1 hs]
 subst hv1;obtain ⟨us,he⟩:∃ us,E 0=some (.slc 0 v0 us):=by
  cases h0 with
  | osl he _=>exact ⟨_,he⟩
  | oslOld he hl _=>
   have:=(hrep.ok 0 _ he).1
   omega
 obtain ⟨_,xs,hown,hxs⟩:=hrep.ok 0 _ he;have rtup:∀ (w':World) (X':Nat->Prop) (E':Env),R w' X' E' (.tup 0 (lst [])) (.tuple #[]):=fun _ _ _=> .tup rfl (fun i hi=>absurd hi (lj _))
 rcases hown with ⟨a,rfl,hz,rfl⟩ | ⟨b,cap,cur,rfl,hb,hlc,hcap,hcs,htake,hxl⟩
 ·refine (AnyF.slices_SortFunc_none Tryz.bt4 a 0 (.func (.func 69) #[] #[]) w).mono ?_;rintro e w' ⟨rfl,rfl⟩;refine ⟨.tuple #[],E,rfl,bf4 hrep he rfl rfl rfl (lh _) (fun _ _ _=>rfl) ⟨[],.inl ⟨a,rfl,hz,rfl⟩,fun i j hi=>?_⟩,rtup _ _ _⟩;rw [hz] at hi;exact absurd hi (lj _)
 ·have hd:g.L.toArray.size=g.n:=by rw [xy,Og.len]
  have gL:∀ i,i<g.n->(g.L.toArray)[i]! = g.f i:=fun i hi=>by
   rw [getElem!_pos _ i (by omega)];simp [Og.L]
  have am6:∀ j,j<g.n*4->cur[j]?=some ((flatK enR 4 g.L.toArray)[j]!):=fun j hj=>by
   have hij:j / 4*4+j % 4=j:=by omega
   have hi:j / 4<g.n:=by omega
   have hj3:j % 4<4:=by omega
   obtain ⟨_,hR⟩:=hxs (j / 4) (j % 4) hi hj3;rw [hij] at hR;have ex:xs.getD j undef=(cur[j]?).getD undef:=by
    rw [<-htake,la,uJ hj];simp
   have hlt:j<cur.size:=by rw [hcs]; have:=ll 4 hlc; omega
   rw [ex] at hR;rw [lM hlt] at hR ⊢;rw [get_flatK _ _ _ _ (by rw [hd]; exact hj),gL _ hi];congr 1;refine bf6 (P:=fun s u=>R w (Xo X E [rowW 0 g.n g.f]) E0 s cur[j]->cur[j]=u) hj3 ?_ ?_ ?_ ?_ (hok _ hi) hR
   ·intro h; exact ak6 h
   ·intro h; exact ak6 h
   ·intro h; exact ak6 h
   ·intro h; exact ak6 h
  have hH:HoldsK enR 4 w b 0 g.L.toArray:=fun j hj=>by
   rw [size_flatK,hd] at hj;have hc:=am6 j hj;rw [lu];refine ⟨?_,?_⟩
   ·unfold World.cell?;rw [hb];exact hc
   ·unfold World.frozen?;rw [hb];simp
  have hcon:=AnyQ.slices_SortFunc_eq Tryz.bt4 4 (fun w=>by kernel_rfl) (fun w=>by kernel_rfl) enR (fun _=>rfl) (fun x v hv=>by
   simp only [enR,lP,lJ,uk] at hv;rcases hv with rfl | rfl | rfl | rfl<;>rfl) cfR swo 69 #[] b 0 (cap+1) g.L.toArray w (enters_of Tryz.func69 (by kernel_rfl) rfl) (bW7 _ _ _ _) hH (lt_of_block hb) (by rw [hd]; omega)
  rw [hd] at hcon;refine hcon.mono ?_;rintro e w' ⟨rfl,m,os,rfl⟩;have es:pdq (ltOf cfR) g.L.toArray 0 g.n (Lib.bitLen g.n) true true=srtA g.L.toArray:=by unfold srtA; rw [hd]
  rw [es];have hsd:(srtA g.L.toArray).size=g.n:=by rw [(al8 g.L.toArray).1.1,hd]
  have pc:∀ j,j<g.n*4->(putCells id 0 (flatK enR 4 (srtA g.L.toArray)) cur)[j]?=some ((flatK enR 4 (srtA g.L.toArray))[j]!):=fun j hj=>by
   have hlt:j<cur.size:=by rw [hcs]; have:=ll 4 hlc; omega
   unfold putCells;rw [Array.getElem?_mapIdx,lM hlt];simp only [lD];rw [lg ⟨lm _,by rw [size_flatK,hsd,lu]; exact hj⟩,ue];rfl
  have psz:(putCells id 0 (flatK enR 4 (srtA g.L.toArray)) cur).size=cur.size:=by unfold putCells; simp
  refine ⟨.tuple #[],E,rfl,bf4 hrep he rfl rfl rfl (bt5 _ _ _ _ _) (fun k hk hne=>bk6 hk (hne b rfl) _ _ _) ⟨(putCells id 0 (flatK enR 4 (srtA g.L.toArray)) cur).toList.take (g.n*4),.inr ⟨b,cap,_,rfl,bk7 hb m _ os,hlc,hcap,by rw [psz,hcs],rfl,?_⟩,fun i j hi hj=>?_⟩,rtup _ _ _⟩
  ·rw [xq,ly,psz,hcs];have:=ll 4 hlc
   omega
  ·have hk:i*4+j<g.n*4:=by omega
   have ex:((putCells id 0 (flatK enR 4 (srtA g.L.toArray)) cur).toList.take (g.n*4)).getD (i*4+j) undef=(enR (oI (srt g) i))[j]!:=by
    rw [la,uJ hk,lF,pc _ hk,get_flatK _ _ _ _ (by rw [hsd]; exact hk),show (i*4+j) / 4=i by omega,show (i*4+j) % 4=j by omega];have e:(srtA g.L.toArray)[i]! = oI (srt g) i:=by
     unfold oI srt;rw [getElem!_pos _ i (by omega),la,ln (by rw [ly]; omega)];simp
    rw [e];rfl
   rw [ex];have okd:okO (oI (srt g) i):=by
    have hm:oI (srt g) i∈srt g:=by
     unfold oI;rw [la,ln (by rw [aS6]; exact hi)];exact xn _
    have:=(aS5 g).mem_iff.1 hm
    obtain ⟨k,hk,e⟩:=xx.1 this;rw [<-e];exact hok k (lS.1 hk)
   exact bf6 (P:=fun s u=>ab0 u/\∀ X':Nat->Prop,R (sortWorldK enR 4 w b 0 m (srtA g.L.toArray) os) X' E0 s u) hj ⟨rfl,fun _=> .int⟩ ⟨rfl,fun _=> .int⟩ ⟨rfl,fun _=> .int⟩ ⟨rfl,fun _=> .int⟩ okd
end Ows
set_option linter.unusedSimpArgs false
set_option linter.unusedVariables false
namespace Apl
open Go.RowKit Go.Lib Go.Sort Sx Num Aff Con Rga Rgl Rgm Rgn Rgf Gat Gar Ows
set_option maxRecDepth 100000
def Pcs.L (P:Pcs) (k:Nat):List Rn:=Lf (P.p k) (P.m k)
def ow (r:Rn) (k:Nat):Ow:=⟨r.y,r.x0,r.x1,k⟩
def Ow.r (o:Ow):Rn:=⟨o.y,o.x0,o.x1⟩
def alr (P:Pcs) (k j:Nat):List Ow:=(List.range j).map fun i=>ow (P.p k i) k
def al (P:Pcs):Nat->List Ow
 | 0=>[]
 | k+1=>al P k++alr P k (P.m k)
structure PcOK (P:Pcs):Prop where
 n:P.n<=4096
 tot:(al P P.n).length<=100000000
 v:∀ k,k<P.n->vld (Pcs.L P k)
 ne:∀ k,k<P.n->0<P.m k
 dist:∀ i j,i<j->j<P.n->kOf (P.ink i)≠kOf (P.ink j)
 disj:∀ i j,i<j->j<P.n->∀ y x,mem (Pcs.L P i) y x=true->mem (Pcs.L P j) y x=true->False
 ord:∀ k,k+1<P.n->(P.p k 0).y<(P.p (k+1) 0).y\/((P.p k 0).y=(P.p (k+1) 0).y/\(P.p k 0).x0<=(P.p (k+1) 0).x0)
theorem bj1 (P:Pcs) (k j:Nat):alr P k (j+1)=alr P k j++[ow (P.p k j) k]:=by
 unfold alr;rw [List.range_succ,List.map_append];rfl
theorem as8 (P:Pcs) (k j:Nat):(alr P k j).length=j:=by simp [alr]
theorem bd0 (P:Pcs):∀ k l,k<=l->(al P k).length<=(al P l).length
 | k,0,h=>by rw [Nat.le_zero.1 h]; exact lh _
 | k,l+1,h=>by
  by_cases hk:k=l+1
  ·rw [hk]; exact lh _
  ·have:=bd0 P k l (by omega)
   show _<=(al P l++alr P l (P.m l)).length;rw [lv];omega
theorem ba1 {P:Pcs}{k j:Nat}{o:Ow}:o∈alr P k j<->∃ i,i<j/\o=ow (P.p k i) k:=by
 unfold alr;rw [xx];exact ⟨fun ⟨i,h,e⟩=>⟨i,lS.1 h,e.symm⟩,fun ⟨i,h,e⟩=>⟨i,lS.2 h,e.symm⟩⟩
theorem a00 {P:Pcs}{o:Ow}:∀ {n},o∈al P n<->∃ k i,k<n/\i<P.m k/\o=ow (P.p k i) k
 | 0=>⟨fun h=>(lJ h).elim,fun ⟨_,_,h,_⟩=>absurd h (lj _)⟩
 | n+1=>by
  show o∈al P n++alr P n (P.m n)<->_;rw [xa,a00,ba1];constructor
  ·rintro (⟨k,i,h1,h2,h3⟩ | ⟨i,h1,h2⟩)
   ·exact ⟨k,i,by omega,h2,h3⟩
   ·exact ⟨n,i,by omega,h1,h2⟩
  ·rintro ⟨k,i,h1,h2,h3⟩;by_cases hk:k=n
   ·subst hk; exact .inr ⟨i,h2,h3⟩
   ·exact .inl ⟨k,i,by omega,h2,h3⟩
theorem aF0 {P:Pcs}{k i:Nat}(h:i<P.m k):P.p k i∈Pcs.L P k:=xx.2 ⟨i,lS.2 h,rfl⟩
theorem bR4 {P:Pcs}(h:PcOK P) {k i j:Nat}(hk:k<P.n) (hij:i<j) (hj:j<P.m k):ltR (P.p k i) (P.p k j):=lt_of (g:=⟨P.m k,P.p k⟩) (h.v k hk) hij hj
theorem a65 {P:Pcs}(h:PcOK P) {k:Nat}(hk:k<P.n):∀ j,j<=P.m k->(alr P k j).Nodup
 | 0,_=>List.nodup_nil
 | j+1,hj=>by
  rw [bj1,List.nodup_append];refine ⟨a65 h hk j (by omega),(by simp),fun a ha b hb hab=>?_⟩;obtain ⟨i,hi,rfl⟩:=ba1.1 ha;rw [lG] at hb;rw [hb] at hab;have hl:=bR4 h hk hi (by omega:j<P.m k);have e1:(P.p k i).y=(P.p k j).y:=congrArg Ow.y hab;have e2:(P.p k i).x0=(P.p k j).x0:=congrArg Ow.x0 hab;have e3:(P.p k i).x1=(P.p k j).x1:=congrArg Ow.x1 hab;have ok:=(h.v k hk).1 _ (aF0 (show i<P.m k by omega));have:=ok.2
  unfold ltR at hl;omega
theorem bj4 {P:Pcs}(h:PcOK P):∀ n,n<=P.n->(al P n).Nodup
 | 0,_=>List.nodup_nil
 | n+1,hn=>by
  show (al P n++alr P n (P.m n)).Nodup;rw [List.nodup_append];refine ⟨bj4 h n (by omega),a65 h (by omega) _ (lh _),fun a ha b hb hab=>?_⟩;obtain ⟨k,i,h1,h2,rfl⟩:=a00.1 ha;obtain ⟨j,h3,rfl⟩:=ba1.1 hb;have:((k:Nat):Int)=(n:Int):=congrArg Ow.k hab
  omega
def alG (P:Pcs):Og:=⟨(al P P.n).length,oI (al P P.n)⟩
theorem Og_of (L:List Ow):Og.L ⟨L.length,oI L⟩=L:=by
 refine lab (by simp [Og.L]) fun i h1 h2=>?_
 simp [Og.L,oI,h2]
theorem b77 (P:Pcs):(alG P).L=al P P.n:=Og_of _
theorem bJ2 {P:Pcs}(h:PcOK P) {o:Ow}(ho:o∈al P P.n):okO o:=by
 obtain ⟨k,i,h1,h2,rfl⟩:=a00.1 ho;have ok:=(h.v k h1).1 _ (aF0 h2);obtain ⟨⟨q1,q2,q3⟩,q4⟩:=ok;have hn:=h.n;exact ⟨⟨⟨q1.1,by show (P.p k i).y<=8192; omega⟩,q2,q3⟩,by show -8192<=(k:Int); omega,by show (k:Int)<=8192; omega⟩
theorem bg5 {L:List Ow}{i:Nat}(h:i<L.length):oI L i∈L:=by
 unfold oI;rw [la,ln h];exact xn h
theorem br5 {P:Pcs}(h:PcOK P) {i:Nat}(hi:i+1<(al P P.n).length) (hy:(oI (Ows.srt (alG P)) i).y=(oI (Ows.srt (alG P)) (i+1)).y):(oI (Ows.srt (alG P)) i).x1<=(oI (Ows.srt (alG P)) (i+1)).x0:=by
 have hlen:(Ows.srt (alG P)).length=(al P P.n).length:=Ows.aS6 _;have hp:(Ows.srt (alG P)).Perm (al P P.n):=by have:=aS5 (alG P); rwa [b77] at this
 have nd:(Ows.srt (alG P)).Nodup:=hp.nodup_iff.2 (bj4 h _ (lh _));have m1:=hp.mem_iff.1 (bg5 (L:=srt (alG P)) (i:=i) (by omega));have m2:=hp.mem_iff.1 (bg5 (L:=srt (alG P)) (i:=i+1) (by omega));have hs:=bk3 (alG P) (i:=i) (j:=i+1) (by omega) (by show i+1<(al P P.n).length; omega);have hne:oI (Ows.srt (alG P)) i≠oI (Ows.srt (alG P)) (i+1):=by
  unfold oI;rw [la,la,ln (show i<(Ows.srt (alG P)).length by omega),ln (show i+1<(Ows.srt (alG P)).length by omega)];exact xR.1 nd i (i+1) (by omega) (by omega) (by omega)
 generalize oI (Ows.srt (alG P)) i=a at *
 generalize oI (Ows.srt (alG P)) (i+1)=b at *
 have oka:=bJ2 h m1;have okb:=bJ2 h m2;rw [Ows.aB2] at hs;rw [a56 okb.1.1.1 okb.1.1.2,a56 oka.1.1.1 oka.1.1.2,a56 okb.1.2.1.1 okb.1.2.1.2,a56 oka.1.2.1.1 oka.1.2.1.2] at hs;have hx:a.x0<=b.x0:=by omega
 obtain ⟨k,s,h1,h2,rfl⟩:=a00.1 m1;obtain ⟨l,t,h3,h4,rfl⟩:=a00.1 m2;have ra:=((h.v k h1).1 _ (aF0 h2)).2;have rb:=((h.v l h3).1 _ (aF0 h4)).2;have hy:(P.p k s).y=(P.p l t).y:=hy;have hx:(P.p k s).x0<=(P.p l t).x0:=hx;show (P.p k s).x1<=(P.p l t).x0;by_cases hkl:k=l
 ·subst hkl;rcases uy s t with hst | hst | hst
  ·have:=bR4 h h1 hst h4
   unfold ltR at this;omega
  ·subst hst; exact absurd rfl hne
  ·have:=bR4 h h1 hst h2
   unfold ltR at this;omega
 ·refine Int.not_lt.1 fun hc=>?_
  have i1:mem (Pcs.L P k) (P.p k s).y (P.p l t).x0=true:=(mem_iff _ _ _).2 ⟨_,aF0 h2,rfl,hx,hc⟩;have i2:mem (Pcs.L P l) (P.p k s).y (P.p l t).x0=true:=(mem_iff _ _ _).2 ⟨_,aF0 h4,hy.symm,xN _,rb⟩;rcases uh hkl with hlt | hgt
  ·exact h.disj k l hlt h3 _ _ i1 i2
  ·exact h.disj l k hgt h1 _ _ i2 i1
end Apl
set_option linter.unusedSimpArgs false
set_option linter.unusedVariables false
namespace Apt
open Go.RowKit Sx Num Aff Con Rga Rgl Rgm Rgn Gat Gar Ows Apl
set_option maxRecDepth 100000
def bf2:FSpec:=aa3 72 (γ:=Rn×Rn) (fun | [.agg _ x,.agg _ y]=>some (rnD x,rnD y) | _=>none) (fun g=>[rnS g.1,rnS g.2]) (fun _=>True)
 (fun g=> .bool (decide (g.1.y<g.2.y)||(decide (g.1.y=g.2.y)&&decide (g.1.x0<g.2.x0))))
theorem bw5:aa2 Tryz.prog bf2:=by
 refine ssW (specs:=[]) trivial Tryz.func72 (fun g=>A0) ?_;rintro ⟨a,b⟩ _;refine ab2 (B:=let T9:=fun p:Prop=>True/\True/\True/\True/\True/\True/\True/\True/\True/\p;let z0:=(decide (a.y<b.y)||decide (a.y=b.y)&&decide (a.x0<b.x0));T9 (Br (decide (a.y<b.y)) (True/\True/\True/\Sx.Ask (true=z0)) (True/\True/\True/\True/\True/\True/\Br (decide (a.y=b.y)) (T9 (Sx.Ask (decide (a.x0<b.x0)=z0))) (True/\True/\True/\True/\Sx.Ask (false=z0))))) (by kernel_rfl) ?_;simp only [cln,lw,xA];refine ⟨fun h=>by rw [lk h]; rfl,fun h=>?_⟩;rw [li h,laf];refine ⟨fun h2=>by rw [lk h2]; rfl,fun h2=>by rw [li h2]; rfl⟩
structure DlG where
 n:Nat
 f:Nat->Ow
 o:Ow
def dlD:List SV->List SO->Option DlG
 | _,[.row _ n _ g _,.cells _ c _]=>some ⟨n,fun i=>owD (g i),owD c⟩
 | _,_=>none
def rowO (ver n:Nat) (f:Nat->Ow):SO:= .row ver n 4 (fun i=>lst (owL (f i))) 146
def celO (o:Ow):SO:= .cells 4 (lst (owL o)) 146
def dlF:SV:= .fn 71 1 (lst [.own 1 0])
def bQ1:FSpec:=ac3 71 [.arg 1] (fun | [.agg _ x,_],[.cells _ c _]=>some (owD x,owD c) | _,_=>none) (fun g=>[.agg 4 (lst (owL g.1)),.own 0 0]) (fun g=>[celO g.2]) (fun _=>True) (fun g=> .bool (decide (g.1.x1<=g.2.x0))) (fun g=>[celO g.2])
theorem bN0:aa2 Tryz.prog bQ1:=by
 refine smW (specs:=[]) trivial Tryz.func71 (fun g=>A0) true ?_;rintro ⟨a,b⟩ _;refine ab2 (B:=let A:=Sx.Ask;let z0:=(IntKind.i64=IntKind.i64);let q0:=fun p:Int=>A z0/\A (p=p);True/\True/\True/\True/\True/\True/\True/\True/\True/\True/\True/\True/\(A (decide (a.x1<=b.x0)=decide (a.x1<=b.x0))/\True)/\((((True/\q0 b.y)/\q0 b.x0)/\q0 b.x1)/\q0 b.k)/\True) (by kernel_rfl) ?_;simp only [cln,lw,xA]
def DlG.Ok (g:DlG):Prop:=g.n<=1/\∀ i,i<g.n->(g.f i).x1<=g.o.x0
def bZ7:FSpec:=ac3 94 [.arg 0,.part 1 0] dlD (fun _=>[.osl 0 0,dlF]) (fun g=>[rowO 0 g.n g.f,celO g.o]) (fun g=>g.Ok) (fun g=> .int .i64 (if g.n=0 then -1 else 0)) (fun g=>[rowO 0 g.n g.f,celO g.o])
theorem b30:aa2 Tryz.prog bZ7:=by
 refine smW (specs:=[bQ1]) (⟨bN0,trivial⟩) Tryz.func94 (fun g=>(⟨[(2,.rounds 2)],[]⟩:Ann)) true ?_;rintro g hg;refine ab2 (B:=let T5:=fun p:Prop=>True/\True/\True/\True/\True/\p;let K:=Br;let A:=Sx.Ask;let z7:=(1:Int);let z6:=(0:Int);let z4:=(g.f (Int.toNat z6));let z3:=(g.f (z6+z7).toNat);let z2:=(IntKind.i64=IntKind.i64);let q2:=fun p:Int=>A z2/\A (p=p);let z1:=(A (g.n=g.n)/\∀ i:Nat,i<g.n->(((True/\q2 ((g.f i).y))/\q2 ((g.f i).x0))/\q2 ((g.f i).x1))/\q2 ((g.f i).k));let z0:=((((True/\q2 g.o.y)/\q2 g.o.x0)/\q2 g.o.x1)/\q2 g.o.k);let z5:=(True/\True/\True/\((A z2/\A ((-1:Int)=if g.n=(0:Nat) then (-1:Int) else z6))/\True)/\z1/\z0/\True);T5 (K (decide (z6<(↑g.n:Int))) (T5 (A (z6<=z6/\z6<(↑g.n:Int))/\A (Int.toNat z6<g.n)/\((True/\(((((True/\q2 z4.y)/\q2 z4.x0)/\q2 z4.x1)/\q2 z4.k)/\A ((0:Nat)=(0:Nat))/\True)/\z0/\True)/\A True)/\K (decide (z4.x1<=g.o.x0)) (True/\True/\True/\True/\((A z2/\A (z6=if g.n=(0:Nat) then (-1:Int) else z6))/\True)/\z1/\z0/\True) (A ((-9223372036854775808:Int)<=z6+z7/\z6+z7<=(9223372036854775807:Int))/\True/\True/\K (decide (z6+z7<(↑g.n:Int))) (T5 (A (z6<=z6+z7/\z6+z7<(↑g.n:Int))/\A ((z6+z7).toNat<g.n)/\((True/\(((((True/\q2 z3.y)/\q2 z3.x0)/\q2 z3.x1)/\q2 z3.k)/\A ((0:Nat)=(0:Nat))/\True)/\z0/\True)/\A True)/\K (decide (z3.x1<=g.o.x0)) (True/\True/\True/\True/\((A z2/\A (z6+z7=if g.n=(0:Nat) then (-1:Int) else z6))/\True)/\z1/\z0/\True) (A ((-9223372036854775808:Int)<=z6+z7+z7/\z6+z7+z7<=(9223372036854775807:Int))/\True/\False))) z5))) z5)) (by kernel_rfl) ?_;simp only [cln,lw,xA];obtain ⟨h1,h2⟩:=hg;refine ⟨fun h=>⟨by omega,by show 0<g.n; omega,fun _=>by rw [lb (by omega)],fun hc=>absurd (h2 0 (by omega)) hc⟩,fun h=>by rw [lg (by omega)]⟩
def bL7:FSpec:=ac3 70 [.arg 0,.part 1 0] dlD (fun _=>[.osl 0 0,dlF]) (fun g=>[rowO 0 g.n g.f,celO g.o]) (fun g=>g.Ok) (fun _=> .osl 0 1) (fun g=>[rowO 1 0 g.f,celO g.o])
theorem bT3:aa2 Tryz.prog bL7:=by
 refine smW (specs:=[bZ7,bQ1]) (⟨b30,bN0,trivial⟩) Tryz.func70 (fun g=>(⟨[(5,.rounds 1)],[(1000012,[.shrink 4])]⟩:Ann)) true ?_;rintro g hg;refine ab2 (B:=let T3:=fun p:Prop=>True/\True/\True/\p;let K:=Int.ofNat;let A:=Sx.Ask;let z11:=(↑g.n:Int);let z9:=(1:Int);let z8:=(0:Int);let z7:=(0:Nat);let z10:=(z8<=if g.n=z7 then (-1:Int) else z8);let z2:=(IntKind.i64=IntKind.i64);let q2:=fun p:Int=>A z2/\A (p=p);let z1:=((((True/\q2 g.o.y)/\q2 g.o.x0)/\q2 g.o.x1)/\q2 g.o.k);let z0:=(if g.n=z7 then (-1:Int) else z8);let z6:=((-9223372036854775808:Int)<=z0+z9/\z0+z9<=(9223372036854775807:Int));let z5:=((-9223372036854775808:Int)<=z0+z9+z9/\z0+z9+z9<=(9223372036854775807:Int));let z4:=(g.f (z0+z9).toNat);T3 (((True/\(True/\(A ((71:Go.FuncId)=(71:Go.FuncId))/\True/\A (z7=z7))/\True)/\(A (g.n=g.n)/\∀ i:Nat,i<g.n->(((True/\q2 ((g.f i).y))/\q2 ((g.f i).x0))/\q2 ((g.f i).x1))/\q2 ((g.f i).k))/\z1/\True)/\A g.Ok)/\T3 (Br (decide (z0=(-1:Int))) (T3 (True/\(True/\True)/\(A (g.n=z7)/\∀ i:Nat,i<z7->(((True/\q2 ((g.f i).y))/\q2 ((g.f i).x0))/\q2 ((g.f i).x1))/\q2 ((g.f i).k))/\z1/\True)) (True/\A z6/\T3 (True/\True/\Br (decide (z0+z9<z11)) (True/\True/\A (z8<=z0+z9/\z0+z9<z11)/\A ((z0+z9).toNat<g.n)/\T3 (True/\((True/\(((((True/\q2 z4.y)/\q2 z4.x0)/\q2 z4.x1)/\q2 z4.k)/\A (z7=z7)/\True)/\z1/\True)/\A True)/\True/\Br (!decide (z4.x1<=g.o.x0)) (T3 (A (z10/\z0<z11)/\A (z0.toNat<g.n)/\True/\A z6/\True/\True/\A z5/\True/\False)) (True/\A z5/\True/\False))) (True/\True/\A (z10/\z0<=K g.n/\K g.n<=K g.n/\K g.n<=z11)/\T3 (A (z8<=K z7/\(K z7<=if g.n=z7 then (-1:Int) else z8)/\z0<=K g.n/\K g.n<=z11)/\T3 ((True/\True)/\(A ((z0-K z7).toNat=z7)/\∀ i:Nat,let z3:=(z0.toNat<=i/\i<z0.toNat+(K g.n-if g.n=z7 then (-1:Int) else z8).toNat); i<z7->(((True/\A z2/\A ((bif decide z3 then z8 else (g.f i).y)=(g.f i).y))/\A z2/\A ((bif decide z3 then z8 else (g.f i).x0)=(g.f i).x0))/\A z2/\A ((bif decide z3 then z8 else (g.f i).x1)=(g.f i).x1))/\A z2/\A ((bif decide z3 then z8 else (g.f i).k)=(g.f i).k))/\z1/\True)))))))) (by kernel_rfl) ?_;simp only [cln,lw,xA];simp only [Int.ofNat_eq_natCast];obtain ⟨h1,h2⟩:=id hg;refine ⟨hg,fun h=>?_,fun h=>?_⟩
 ·by_cases hn:g.n=0
  ·exact hn
  ·rw [lb hn] at h; omega
 ·have hn:¬ g.n=0:=fun hn=>h (lg hn)
  simp only [lb hn];exact ⟨by omega,fun hc=>by omega,fun _=>⟨by omega,by omega,by omega,fun i hi=>absurd hi (lj _)⟩⟩
def seen (P:Pcs):Nat->List Int->Bool
 | 0,_=>false
 | i+1,l=>decide (l=kOf (P.ink i))||seen P i l
def aY3 (P:Pcs):Nat->List Int->Int
 | 0,_=>0
 | i+1,l=>bif decide (l=kOf (P.ink i)) then (i:Int) else aY3 P i l
noncomputable def sS (P:Pcs) (i:Nat):Ow:=oI (srt (alG P)) i
def ap1 (P:Pcs):Inv:=⟨Nat,fun k=>k<=P.n,fun k=>⟨[(0,pcS P),(3,.osl 0 0),(20,pcS P),(21,.int .i64 P.n),(22,.int .i64 k)],[rowO 0 (al P k).length (oI (al P k))]⟩,fun k=>P.n-k⟩
def ap2 (P:Pcs) (k:Nat):Inv:=⟨Nat,fun j=>k<P.n/\j<=P.m k,fun j=>⟨[(0,pcS P),(3,.osl 0 0),(4,.int .i64 k),(20,pcS P),(21,.int .i64 P.n),(22,.int .i64 k),(5,.own 1 0),(28,rgS ⟨P.m k,P.p k⟩),(29,.int .i64 (P.m k)),(30,.int .i64 j)],
 [rowO 0 (al P k++alr P k j).length (oI (al P k++alr P k j)),.cells 9 (pcC P k) 62]⟩,fun j=>P.m k-j⟩
def twS (P:Pcs):SO:= .row 0 P.n 1 (fun _ _=> .bool false) 4
noncomputable def ap3 (P:Pcs):Inv:=⟨Nat,fun i=>i<=(al P P.n).length,fun i=>⟨[(0,pcS P),(8,.osl 1 0),(9,.int .i64 (if i=0 then -1 else (sS P (i-1)).y)),(10,.osl 2 0),(47,.osl 0 0),(48,.int .i64 (al P P.n).length),(49,.int .i64 i)],
 [rowO 0 (al P P.n).length (sS P),twS P,rowO 0 (if i=0 then 0 else 1) (fun _=>sS P (i-1))]⟩,fun i=>(al P P.n).length-i⟩
def ap4 (P:Pcs):Inv:=⟨Nat,fun i=>i<=P.n,fun i=>⟨[(0,pcS P),(8,.osl 1 0),(15,.omap 3),(86,pcS P),(87,.int .i64 P.n),(88,.int .i64 i)],
 [.dead,twS P,.dead,.mpi (.arr 8 .u8) false (seen P i) (fun l=> .int .i64 (aY3 P i l))]⟩,fun i=>P.n-i⟩
noncomputable def bt2:FSpec:=aa3 49 (γ:=Pcs) (fun | [s]=>some (pcD s) | _=>none) (fun P=>[pcS P]) PcOK (fun _=> .int .i64 0)
theorem bG6:aa2 Tryz.prog bt2:=by
 refine ssW (specs:=[Ows.bs1,bL7,bf2]) (⟨bR8,bT3,bw5,trivial⟩) Tryz.func49 (fun g=>(⟨[(3,.nest (ap1 g) (fun k=>[(6,.inv (ap2 g k))])),(16,.nest (ap3 g) (fun i=>[(22,.rounds 1)])),(30,.inv (ap4 g))],[(2,[.own 3 146 4]),(15,[.own 10 146 4]),(1000019,[.shrink 10])]⟩:Ann)) ?_;rintro P hP;refine ab2 (B:=let T2:=fun p:Prop=>True/\True/\p;let T8:=fun p:Prop=>True/\True/\True/\True/\True/\True/\True/\True/\p;let J:=Int.ofNat;let K:=Br;let A:=Sx.Ask;let z47:=(7:Nat);let z46:=(6:Nat);let z45:=(5:Nat);let z44:=(4:Nat);let z43:=(3:Nat);let z42:=(2:Nat);let z36:=(Apl.al P P.n);let z28:=(↑P.n:Int);let z27:=(1:Int);let z26:=(0:Int);let z22:=(-9223372036854775808:Int);let z19:=(↑z36.length:Int);let z18:=(9223372036854775807:Int);let z10:=(A (P.n=P.n)/\∀ i:Nat,i<P.n->True/\A (false=false));let z8:=(1:Nat);let z7:=(0:Nat);let z33:=(J z7-J z7);let z32:=(True/\(A ((71:Nat)=(71:Go.FuncId))/\True/\A (z7=z7))/\True);let z30:=(z7+z8<=(9223372036854775807:Nat)/\(z7+z8)*(32:Nat)<=(140737488355328:Nat));let z3:=(IntKind.u8=IntKind.u8);let q3:=fun p:Int=>A z3/\A (p=p);let z1:=(IntKind.i64=IntKind.i64);let q1:=fun p:Int=>A z1/\A (p=p);let z11:=(q1 z28);let z9:=(A (z36.length=z36.length)/\∀ i:Nat,i<z36.length->(((True/\q1 ((sS P i).y))/\q1 ((sS P i).x0))/\q1 ((sS P i).x1))/\q1 ((sS P i).k));let z0:=(A (P.n=P.n)/\∀ i:Nat,i<P.n->(chp (True/\A (P.m i=P.m i)/\∀ i_1:Nat,let z48:=(P.p i i_1); i_1<P.m i->((True/\q1 z48.y)/\q1 z48.x0)/\q1 z48.x1) (fun j:Nat=>q3 (P.ink i j)) 7)/\q3 (P.ink i z47));T2 (T2 (True/\(∃ g:Nat,A ((ap1 P).pre g)/\(z0/\True/\z0/\z11/\(A z1/\A (z26=(↑g:Int)))/\True)/\(A (z7=(Apl.al P g).length)/\∀ i:Nat,i<(Apl.al P g).length->(((True/\False)/\False)/\False)/\False)/\True)/\∀ g:Nat,let z39:=(↑(P.m g):Int);let z17:=(↑g:Int);let z31:=(q1 z17);let z13:=(Apl.al P g); (ap1 P).pre g->True/\K (decide (z17<z28)) (True/\A (z26<=z17/\z17<z28)/\T8 ((∃ g_1:Nat,let z23:=(Apl.al P g++alr P g g_1); A ((ap2 P g).pre g_1)/\(z0/\True/\z31/\z0/\z11/\z31/\A (z7=z7)/\(A (P.m z17.toNat=P.m g)/\∀ i:Nat,i<P.m g->((True/\A z1/\A ((P.p z17.toNat i).y=(P.p g i).y))/\A z1/\A ((P.p z17.toNat i).x0=(P.p g i).x0))/\A z1/\A ((P.p z17.toNat i).x1=(P.p g i).x1))/\(A z1/\A ((↑(P.m z17.toNat):Int)=z39))/\(A z1/\A (z26=(↑g_1:Int)))/\True)/\(A (z13.length=z23.length)/\∀ i:Nat,i<z23.length->(((True/\A z1/\A ((Ows.oI z13 i).y=(Ows.oI z23 i).y))/\A z1/\A ((Ows.oI z13 i).x0=(Ows.oI z23 i).x0))/\A z1/\A ((Ows.oI z13 i).x1=(Ows.oI z23 i).x1))/\A z1/\A ((Ows.oI z13 i).k=(Ows.oI z23 i).k))/\(((((((((True/\A (P.m z17.toNat=P.m g)/\∀ i:Nat,i<P.m g->((True/\A z1/\A ((P.p z17.toNat i).y=(P.p g i).y))/\A z1/\A ((P.p z17.toNat i).x0=(P.p g i).x0))/\A z1/\A ((P.p z17.toNat i).x1=(P.p g i).x1))/\A z3/\A (P.ink z17.toNat z7=P.ink g z7))/\A z3/\A (P.ink z17.toNat z8=P.ink g z8))/\A z3/\A (P.ink z17.toNat z42=P.ink g z42))/\A z3/\A (P.ink z17.toNat z43=P.ink g z43))/\A z3/\A (P.ink z17.toNat z44=P.ink g z44))/\A z3/\A (P.ink z17.toNat z45=P.ink g z45))/\A z3/\A (P.ink z17.toNat z46=P.ink g z46))/\A z3/\A (P.ink z17.toNat z47=P.ink g z47))/\True)/\∀ g_1:Nat,let z35:=(↑g_1:Int);let z5:=(Apl.al P g++alr P g g_1); (ap2 P g).pre g_1->True/\K (decide (z35<z39)) (A (z26<=z35/\z35<z39)/\T8 (A (z5.length+z8<=(9223372036854775807:Nat)/\(z5.length+z8)*(32:Nat)<=(140737488355328:Nat))/\True/\A (z22<=z35+z27/\z35+z27<=z18)/\True/\∃ (g':Nat),let z24:=(Apl.al P g++alr P g g'); A ((ap2 P g).pre g')/\((z0/\True/\z31/\z0/\z11/\z31/\A (z7=z7)/\(A (P.m g=P.m g)/\∀ i:Nat,i<P.m g->((True/\q1 ((P.p g i).y))/\q1 ((P.p g i).x0))/\q1 ((P.p g i).x1))/\(q1 z39)/\(A z1/\A (z35+z27=(↑g':Int)))/\True)/\(A (z5.length+z8=z24.length)/\∀ i:Nat,let z49:=(i<z5.length); i<z24.length->(((True/\A z1/\A ((bif decide z49 then (Ows.oI z5 i).y else (P.p g z35.toNat).y)=(Ows.oI z24 i).y))/\A z1/\A ((bif decide z49 then (Ows.oI z5 i).x0 else (P.p g z35.toNat).x0)=(Ows.oI z24 i).x0))/\A z1/\A ((bif decide z49 then (Ows.oI z5 i).x1 else (P.p g z35.toNat).x1)=(Ows.oI z24 i).x1))/\A z1/\A ((bif decide z49 then (Ows.oI z5 i).k else z17)=(Ows.oI z24 i).k))/\(chp (True/\A (P.m g=P.m g)/\∀ i:Nat,i<P.m g->((True/\q1 ((P.p g i).y))/\q1 ((P.p g i).x0))/\q1 ((P.p g i).x1)) (fun j:Nat=>q3 (P.ink g j)) 8)/\True)/\A ((ap2 P g).meas g'<(ap2 P g).meas g_1))) (A (z22<=z17+z27/\z17+z27<=z18)/\True/\∃ (g':Nat),A ((ap1 P).pre g')/\((z0/\True/\z0/\z11/\(A z1/\A (z17+z27=(↑g':Int)))/\True)/\(A (z5.length=(Apl.al P g').length)/\∀ i:Nat,let z37:=(Ows.oI (Apl.al P g') i); i<(Apl.al P g').length->(((True/\A z1/\A ((Ows.oI z5 i).y=z37.y))/\A z1/\A ((Ows.oI z5 i).x0=z37.x0))/\A z1/\A ((Ows.oI z5 i).x1=z37.x1))/\A z1/\A ((Ows.oI z5 i).k=z37.k))/\True)/\A ((ap1 P).meas g'<(ap1 P).meas g)))) (True/\((True/\(True/\(A ((69:Nat)=(69:Go.FuncId))/\True)/\True)/\(A (z13.length=z13.length)/\∀ i:Nat,let z34:=(Ows.oI z13 i); i<z13.length->(((True/\q1 z34.y)/\q1 z34.x0)/\q1 z34.x1)/\q1 z34.k)/\True)/\A ((∀ i:Nat,i<z13.length->okO (Ows.oI z13 i))/\z13.length<=(4294967296:Nat)))/\T2 (A (z26<=z28/\z28<=z28/\(↑z8:Int)*z28<=(140737488355328:Int)/\z28<=z18)/\T2 (T2 (T2 ((∃ g_1:Nat,A ((ap3 P).pre g_1)/\(z0/\True/\(A z1/\A ((-1:Int)=if g_1=z7 then (-1:Int) else (sS P (g_1-z8)).y))/\T2 ((A z1/\A ((↑z13.length:Int)=z19))/\(A z1/\A (z26=(↑g_1:Int)))/\True))/\(A (z13.length=z36.length)/\∀ i:Nat,let z20:=(Ows.oI (Ows.srt (Og.mk z13.length (Ows.oI z13))) i); i<z36.length->(((True/\A z1/\A (z20.y=(sS P i).y))/\A z1/\A (z20.x0=(sS P i).x0))/\A z1/\A (z20.x1=(sS P i).x1))/\A z1/\A (z20.k=(sS P i).k))/\(A (z28.toNat=P.n)/\∀ i:Nat,i<P.n->True/\A (false=false))/\(A (z7=if g_1=z7 then z7 else z8)/\∀ i:Nat,(i<if g_1=z7 then z7 else z8)->(((True/\False)/\False)/\False)/\False)/\True)/\∀ g:Nat,let z38:=(↑g:Int);let z29:=(if g=z7 then z7 else z8);let z25:=(sS P (g-z8));let z16:=(((True/\q1 z25.y)/\q1 z25.x0)/\q1 z25.x1);let z2:=(sS P z38.toNat);let z21:=((((True/\q1 z2.y)/\q1 z2.x0)/\q1 z2.x1)/\q1 z2.k); (ap3 P).pre g->True/\K (decide (z38<z19)) (A (z26<=z38/\z38<z19)/\A (z38.toNat<z36.length)/\T2 (T2 (T2 (True/\K (decide (z2.y≠if g=z7 then (-1:Int) else z25.y)) (True/\A (z26<=J z7/\J z7<=J z7/\J z7<=J z29/\J z29<=(↑z29:Int))/\T2 (T2 (T2 (True/\((True/\z32/\(A (z33.toNat=z33.toNat)/\∀ i:Nat,i<z33.toNat->z16/\q1 z25.k)/\z21/\True)/\A (DlG.mk z33.toNat (fun (x:Nat)=>sS P (g-z8)) z2).Ok)/\T8 (A z30/\True/\A (z22<=z38+z27/\z38+z27<=z18)/\True/\∃ (g':Nat),let z40:=(sS P (g'-z8)); A ((ap3 P).pre g')/\((z0/\True/\(A z1/\A (z2.y=if g'=z7 then (-1:Int) else z40.y))/\T2 ((q1 z19)/\(A z1/\A (z38+z27=(↑g':Int)))/\True))/\z9/\z10/\(A (z7+z8=if g'=z7 then z7 else z8)/\∀ i:Nat,(i<if g'=z7 then z7 else z8)->(((True/\A z1/\A (z2.y=z40.y))/\A z1/\A (z2.x0=z40.x0))/\A z1/\A (z2.x1=z40.x1))/\A z1/\A (z2.k=z40.k))/\True)/\A ((ap3 P).meas g'<(ap3 P).meas g)))))) (T2 (((True/\z32/\(A (z29=if g=z7 then z7 else z8)/\∀ i:Nat,(i<if g=z7 then z7 else z8)->z16/\q1 z25.k)/\z21/\True)/\A (DlG.mk z29 (fun (x:Nat)=>sS P (g-z8)) z2).Ok)/\T8 (A z30/\True/\A (z22<=z38+z27/\z38+z27<=z18)/\True/\∃ (g':Nat),let z41:=(sS P (g'-z8)); A ((ap3 P).pre g')/\((z0/\True/\(A z1/\A ((if g=z7 then (-1:Int) else z25.y)=if g'=z7 then (-1:Int) else z41.y))/\T2 ((q1 z19)/\(A z1/\A (z38+z27=(↑g':Int)))/\True))/\z9/\z10/\(A (z7+z8=if g'=z7 then z7 else z8)/\∀ i:Nat,(i<if g'=z7 then z7 else z8)->(((True/\A z1/\A (z2.y=z41.y))/\A z1/\A (z2.x0=z41.x0))/\A z1/\A (z2.x1=z41.x1))/\A z1/\A (z2.k=z41.k))/\True)/\A ((ap3 P).meas g'<(ap3 P).meas g)))))))) (T2 (T2 (True/\(∃ g:Nat,A ((ap4 P).pre g)/\(z0/\T2 (z0/\z11/\(A z1/\A (z26=(↑g:Int)))/\True))/\True/\z10/\True/\(∀ (l:List Int),l.length=(8:Nat)->A (false=seen P g l)/\((seen P g l||false)=true->False))/\True)/\∀ g:Nat,let z4:=(↑g:Int);let z12:=(P.p z4.toNat (Int.toNat z26));let z6:=(P.p (z4-z27).toNat (Int.toNat z26)); (ap4 P).pre g->True/\K (decide (z4<z28)) (True/\A (z26<=z4/\z4<z28)/\T8 (T2 (T2 (T2 (True/\K (seen P g [P.ink z4.toNat z7,P.ink z4.toNat z8,P.ink z4.toNat z42,P.ink z4.toNat z43,P.ink z4.toNat z44,P.ink z4.toNat z45,P.ink z4.toNat z46,P.ink z4.toNat z47]) (T2 (True/\A z1/\A ((7:Int)=z26))) (T2 (A (z26<=z4/\z4<z28)/\A (z4.toNat<P.n)/\T8 (True/\K (decide (z26<z4)) (T2 (A (z26<=z26/\z26<(↑(P.m z4.toNat):Int))/\T2 (True/\A (z22<=z4-z27/\z4-z27<=z18)/\A (z26<=z4-z27/\z4-z27<z28)/\T2 (A (z26<=z26/\z26<(↑(P.m (z4-z27).toNat):Int))/\True/\(((((True/\q1 z12.y)/\q1 z12.x0)/\q1 z12.x1)/\(((True/\q1 z6.y)/\q1 z6.x0)/\q1 z6.x1)/\True)/\A True)/\True/\K (decide (z12.y<z6.y)||decide (z12.y=z6.y)&&decide (z12.x0<z6.x0)) (T2 (A z1/\A ((18:Int)=z26))) (A (z22<=z4+z27/\z4+z27<=z18)/\True/\∃ (g':Nat),A ((ap4 P).pre g')/\((z0/\T2 (z0/\z11/\(A z1/\A (z4+z27=(↑g':Int)))/\True))/\True/\z10/\True/\(∀ (l:List Int),let z14:=(l=[P.ink z4.toNat z7,P.ink z4.toNat z8,P.ink z4.toNat z42,P.ink z4.toNat z43,P.ink z4.toNat z44,P.ink z4.toNat z45,P.ink z4.toNat z46,P.ink z4.toNat z47]); l.length=(8:Nat)->A ((decide z14||seen P g l)=seen P g' l)/\((seen P g' l||false)=true->A z1/\A ((bif decide z14 then z4 else aY3 P g l)=aY3 P g' l)))/\True)/\A ((ap4 P).meas g'<(ap4 P).meas g)))))) (True/\A (z22<=z4+z27/\z4+z27<=z18)/\True/\∃ (g':Nat),A ((ap4 P).pre g')/\((z0/\T2 (z0/\z11/\(A z1/\A (z4+z27=(↑g':Int)))/\True))/\True/\z10/\True/\(∀ (l:List Int),let z15:=(l=[P.ink z4.toNat z7,P.ink z4.toNat z8,P.ink z4.toNat z42,P.ink z4.toNat z43,P.ink z4.toNat z44,P.ink z4.toNat z45,P.ink z4.toNat z46,P.ink z4.toNat z47]); l.length=(8:Nat)->A ((decide z15||seen P g l)=seen P g' l)/\((seen P g' l||false)=true->A z1/\A ((bif decide z15 then z4 else aY3 P g l)=aY3 P g' l)))/\True)/\A ((ap4 P).meas g'<(ap4 P).meas g)))))))))) (T2 (q1 z26))))))))))))) (by kernel_rfl) ?_;simp only [chp];simp only [cln,lw,xA];simp only [Int.ofNat_eq_natCast,bh1];have hn:=hP.n;have htot:=hP.tot;have rows:∀ {L M:List Ow},L=M->L.length=M.length/\∀ i,i<M.length->(((oI L i).y=(oI M i).y/\(oI L i).x0=(oI M i).x0)/\(oI L i).x1=(oI M i).x1)/\(oI L i).k=(oI M i).k:=by
  rintro L M rfl;exact ⟨rfl,fun _ _=>⟨⟨⟨rfl,rfl⟩,rfl⟩,rfl⟩⟩
 have happ:∀ (L:List Ow) (o:Ow) i,i<(L++[o]).length->oI (L++[o]) i=bif decide (i<L.length) then oI L i else o:=fun L o i hi=>by
  unfold oI;rw [la,la];by_cases h:i<L.length
  ·rw [lk h,xf h]; rfl
  ·rw [li h,lN (by omega)];rw [lv,xu] at hi;rw [show i-L.length=0 by omega]; rfl
 have seenMem:∀ k l,seen P k l=true->∃ j,j<k/\l=kOf (P.ink j):=by
  intro k;induction k with
  | zero=>intro l h; cases h
  | succ k ih=>
   intro l h;have h:(decide (l=kOf (P.ink k))||seen P k l)=true:=h;rw [xk,lA] at h;rcases h with h | h
   ·exact ⟨k,by omega,h⟩
   ·obtain ⟨j,h1,h2⟩:=ih l h;exact ⟨j,by omega,h2⟩
 have nodup:∀ k,k<P.n->seen P k (kOf (P.ink k))=true->False:=fun k hk h=>by
  obtain ⟨j,h1,h2⟩:=seenMem _ _ h;exact hP.dist j k h1 hk h2.symm
 have nextP:∀ k:Nat,(k:Int)<P.n->(ap4 P).pre (k+1:Nat)/\((k:Int)+1=((k+1:Nat):Int)/\∀ l:List Int,l.length=8->(decide (l=kOf (P.ink k))||seen P k l)=seen P (k+1) l/\(seen P (k+1) l=true->(bif decide (l=kOf (P.ink k)) then (k:Int) else aY3 P k l)=aY3 P (k+1) l))/\(ap4 P).meas (k+1:Nat)<(ap4 P).meas k:=fun k hk=>
  ⟨by show k+1<=P.n; omega,⟨by simp,fun l _=>⟨rfl,fun _=>rfl⟩⟩,by show P.n-(k+1)<P.n-k; omega⟩
 refine ⟨⟨0,lm _,rfl,rfl,fun i hi=>absurd hi (lj _)⟩,fun k hk=>⟨fun hlt=>⟨by omega,⟨0,⟨by omega,lm _⟩,rfl,rows (List.append_nil _).symm⟩,fun j hj=>⟨fun hjl=>?_,fun hjg=>?_⟩⟩,fun hge=>?_⟩⟩
 ·have hkn:k<P.n:=by omega
  have hjm:j<P.m k:=by omega
  have hlen:(al P k++alr P k j).length+1<=4294967296:=by
   have h1:=bd0 P (k+1) P.n hkn;have h2:(al P (k+1)).length=(al P k).length+P.m k:=by show (al P k++alr P k (P.m k)).length=_; rw [lv,as8]
   rw [lv,as8];omega
  have hm:P.m k<=4294967296:=by
   have h1:=bd0 P (k+1) P.n hkn;have h2:(al P (k+1)).length=(al P k).length+P.m k:=by show (al P k++alr P k (P.m k)).length=_; rw [lv,as8]
   omega
  have e:al P k++alr P k (j+1)=(al P k++alr P k j)++[ow (P.p k j) k]:=by rw [bj1,xj]
  refine ⟨by omega,by omega,by omega,j+1,⟨hkn,hjm⟩,⟨by simp,?_⟩,by show P.m k-(j+1)<P.m k-j; omega⟩;rw [e];refine ⟨by simp [xd],fun i hi=>?_⟩;rw [happ _ _ i hi];cases decide (i<(al P k++alr P k j).length)<;>exact ⟨⟨⟨rfl,rfl⟩,rfl⟩,rfl⟩
 ·have hkn:k<P.n:=by omega
  have hjm:j<=P.m k:=hj.2;refine ⟨by omega,k+1,hkn,⟨by simp,rows ?_⟩,by show P.n-(k+1)<P.n-k; omega⟩;show _=al P k++alr P k (P.m k);rw [show P.m k=j by omega]
 ·have hkn:k=P.n:=by have:k<=P.n:=hk; omega
  subst hkn;have hsrt:∀ i,oI (srt { n:=(al P P.n).length,f:=oI (al P P.n) }) i=sS P i:=fun i=>rfl
  refine ⟨⟨fun i hi=>bJ2 hP (bg5 hi),by omega⟩,by omega,⟨0,lm _,⟨rfl,rfl,rfl⟩,⟨rfl,fun i _=>⟨⟨⟨rfl,rfl⟩,rfl⟩,rfl⟩⟩,rfl,fun i hi=>absurd hi (lj _)⟩,fun i hi=>⟨fun hil=>?_,fun hig=>⟨⟨0,lm _,rfl,fun l _=>⟨rfl,fun h=>by cases h⟩⟩,fun k hk hkl=>?_⟩⟩⟩
  ·have hil':i<(al P P.n).length:=by omega
   have e1:(if i+1=0 then 0 else 1:Nat)=1:=rfl;have next:∀ y:Int,y=(sS P i).y->(ap3 P).pre (i+1:Nat)/\(((y=if i+1=0 then -1 else (sS P (i+1-1)).y)/\(i:Int)+1=((i+1:Nat):Int))/\(1=if i+1=0 then 0 else 1)/\∀ j,(j<if i+1=0 then 0 else 1)->(((sS P i).y=(sS P (i+1-1)).y/\(sS P i).x0=(sS P (i+1-1)).x0)/\(sS P i).x1=(sS P (i+1-1)).x1)/\(sS P i).k=(sS P (i+1-1)).k)/\(ap3 P).meas (i+1:Nat)<(ap3 P).meas i:=fun y hy=>
    ⟨hil',⟨⟨by rw [lb (by omega),Nat.add_sub_cancel]; exact hy,by simp⟩,rfl,fun j _=>by rw [Nat.add_sub_cancel]; exact ⟨⟨⟨rfl,rfl⟩,rfl⟩,rfl⟩⟩,by show (al P P.n).length-(i+1)<(al P P.n).length-i; omega⟩
   refine ⟨by omega,hil',fun hne=>⟨⟨by omega,by omega,by split<;>omega,by omega⟩,⟨lm _,fun j hj=>absurd hj (lj _)⟩,by omega,by omega,i+1,next _ rfl⟩,fun heq=>?_⟩;have heq:=Decidable.not_not.1 heq;have hS:=Ows.aS6 (alG P);have ymem:∀ j,j<(al P P.n).length->okO (sS P j):=fun j hj=>by
    have hp:(Ows.srt (alG P)).Perm (al P P.n):=by have:=aS5 (alG P); rwa [b77] at this
    exact bJ2 hP (hp.mem_iff.1 (bg5 (by rw [hS]; exact hj)))
   refine ⟨⟨by show (if i=0 then 0 else 1)<=1; split<;>omega,fun j hj=>?_⟩,by omega,by omega,i+1,next _ heq.symm⟩;have hi0:i≠0:=fun h0=>by
    have hj:j<if i=0 then 0 else 1:=hj
    rw [lg h0] at hj;omega
   rw [lb hi0] at heq;have:=br5 hP (i:=i-1) (by omega) (by rw [show i-1+1=i by omega]; exact heq.symm)
   rw [show i-1+1=i by omega] at this;exact this
  ·have hkn:k<P.n:=by omega
   have hne:=hP.ne k hkn;refine ⟨by omega,fun h=>(nodup k hkn h).elim,fun _=>⟨by omega,hkn,fun h0=>?_,fun h0=>⟨by omega,k+1,nextP k hkl⟩⟩⟩;have ek:((k:Int)-1).toNat=k-1:=by omega
   rw [ek];have hne2:=hP.ne (k-1) (by omega);have ho:=hP.ord (k-1) (by omega);rw [show k-1+1=k by omega] at ho;refine ⟨by omega,by omega,by omega,by omega,fun h=>?_,fun _=>⟨by omega,k+1,nextP k hkl⟩⟩;rw [xk,lr,lA,lA,lA] at h;have h:(P.p k 0).y<(P.p (k-1) 0).y\/(P.p k 0).y=(P.p (k-1) 0).y/\(P.p k 0).x0<(P.p (k-1) 0).x0:=h;omega
structure ChG where
 w:Nat
 h:Nat
 P:Pcs
structure ChG.Ok (g:ChG):Prop where
 w:1<=g.w/\g.w<=256
 h:1<=g.h/\g.h<=256
 P:PcOK g.P
 nz:∀ k,k<g.P.n->kOf (g.P.ink k)≠nul
 r:∀ k r,k<g.P.n->r<g.P.m k->(0<=(g.P.p k r).y/\(g.P.p k r).y<16*g.h)/\0<=(g.P.p k r).x0/\(g.P.p k r).x1<=16*g.w
def ch1 (g:ChG):Inv:=⟨Nat,fun k=>k<=g.P.n,fun k=>⟨[(0,.int .i64 g.w),(1,.int .i64 g.h),(2,pcS g.P),(19,pcS g.P),(20,.int .i64 g.P.n),(21,.int .i64 k)],[]⟩,fun k=>g.P.n-k⟩
def ch2 (g:ChG) (k:Nat):Inv:=⟨Nat,fun j=>k<g.P.n/\j<=g.P.m k,fun j=>⟨[(0,.int .i64 g.w),(1,.int .i64 g.h),(2,pcS g.P),(19,pcS g.P),(20,.int .i64 g.P.n),(21,.int .i64 k),(8,.own 0 0),(36,rgS ⟨g.P.m k,g.P.p k⟩),(37,.int .i64 (g.P.m k)),(38,.int .i64 j)],
 [.cells 9 (pcC g.P k) 62]⟩,fun j=>g.P.m k-j⟩
noncomputable def bf1:FSpec:=aa3 30 (γ:=ChG) (fun | [.int _ w,.int _ h,s]=>some ⟨w.toNat,h.toNat,pcD s⟩ | _=>none) (fun g=>[.int .i64 g.w,.int .i64 g.h,pcS g.P]) ChG.Ok (fun _=> .int .i64 0)
theorem bw4:aa2 Tryz.prog bf1:=by
 refine aA2 (specs:=[bs2,be9,bt2]) (az5 ⟨bF6,bw2,bG6,trivial⟩) (eqs:=eqI) (all_eq bi2) Aff.mixed Tryz.func30 rfl (by kernel_rfl) (fun _ _=>by kernel_rfl)
  (fun g=>(⟨[(6,.nest (ch1 g) (fun k=>[(14,.inv (ch2 g k))]))],[]⟩:Ann)) (fun g=>lH (by kernel_rfl)) ?_
 rintro g hg;refine ab2 (B:=let T3:=fun p:Prop=>True/\True/\True/\p;let T5:=fun p:Prop=>True/\True/\True/\True/\True/\p;let T7:=fun p:Prop=>True/\True/\True/\True/\True/\True/\True/\p;let K:=Br;let A:=Sx.Ask;let z22:=(1:Int);let z21:=(↑g.P.n:Int);let z15:=(↑g.w:Int);let z14:=(↑g.h:Int);let z13:=(0:Nat);let z11:=(9223372036854775807:Int);let z9:=(-9223372036854775808:Int);let z7:=(0:Int);let z16:=((3:Int)=z7);let z2:=(IntKind.u8=IntKind.u8);let q2:=fun p:Int=>A z2/\A (p=p);let z1:=(IntKind.i64=IntKind.i64);let q1:=fun p:Int=>A z1/\A (p=p);let z23:=(True/\True/\A z1/\A z16);let z6:=(q1 z21);let z5:=(q1 z14);let z4:=(q1 z15);let z0:=(A (g.P.n=g.P.n)/\∀ i:Nat,i<g.P.n->(chp (True/\A (g.P.m i=g.P.m i)/\∀ i_1:Nat,let z18:=(g.P.p i i_1); i_1<g.P.m i->((True/\q1 z18.y)/\q1 z18.x0)/\q1 z18.x1) (fun j:Nat=>q2 (g.P.ink i j)) 7)/\q2 (g.P.ink i (7:Nat)));T3 (((z4/\z5/\True)/\A True)/\True/\K (!(decide (z22<=z15)&&(decide (z15<=(256:Int))&&(decide (z22<=z14)&&decide (z14<=(256:Int)))))) z23 (T3 (K (decide ((4096:Int)<z21)) (True/\True/\A z1/\A ((2:Int)=z7)) (T3 ((∃ g_1:Nat,A ((ch1 g).pre g_1)/\(z4/\z5/\z0/\z0/\z6/\(A z1/\A (z7=(↑g_1:Int)))/\True)/\True)/\∀ g_1:Nat,let z12:=(↑(g.P.m g_1):Int);let z3:=(↑g_1:Int); (ch1 g).pre g_1->True/\K (decide (z3<z21)) (A (z7<=z3/\z3<z21)/\T5 ((((A (g.P.m z3.toNat=g.P.m z3.toNat)/\∀ i:Nat,let z10:=(g.P.p z3.toNat i); i<g.P.m z3.toNat->((True/\q1 z10.y)/\q1 z10.x0)/\q1 z10.x1)/\True)/\A (vld (Rg.mk (g.P.m z3.toNat) (g.P.p z3.toNat)).L/\g.P.m z3.toNat<=(4294967296:Nat)))/\T7 (K (decide ((↑(g.P.m z3.toNat):Int)=z7)) (True/\True/\A z1/\A ((8:Int)=z7)) (T3 (True/\(∃ g_2:Nat,A ((ch2 g g_1).pre g_2)/\(z4/\z5/\z0/\z0/\z6/\(q1 z3)/\A (z13=z13)/\(A (g.P.m z3.toNat=g.P.m g_1)/\∀ i:Nat,i<g.P.m g_1->((True/\A z1/\A ((g.P.p z3.toNat i).y=(g.P.p g_1 i).y))/\A z1/\A ((g.P.p z3.toNat i).x0=(g.P.p g_1 i).x0))/\A z1/\A ((g.P.p z3.toNat i).x1=(g.P.p g_1 i).x1))/\(A z1/\A ((↑(g.P.m z3.toNat):Int)=z12))/\(A z1/\A (z7=(↑g_2:Int)))/\True)/\(((((((((True/\A (g.P.m z3.toNat=g.P.m g_1)/\∀ i:Nat,i<g.P.m g_1->((True/\A z1/\A ((g.P.p z3.toNat i).y=(g.P.p g_1 i).y))/\A z1/\A ((g.P.p z3.toNat i).x0=(g.P.p g_1 i).x0))/\A z1/\A ((g.P.p z3.toNat i).x1=(g.P.p g_1 i).x1))/\A z2/\A (g.P.ink z3.toNat z13=g.P.ink g_1 z13))/\A z2/\A (g.P.ink z3.toNat (1:Nat)=g.P.ink g_1 (1:Nat)))/\A z2/\A (g.P.ink z3.toNat (2:Nat)=g.P.ink g_1 (2:Nat)))/\A z2/\A (g.P.ink z3.toNat (3:Nat)=g.P.ink g_1 (3:Nat)))/\A z2/\A (g.P.ink z3.toNat (4:Nat)=g.P.ink g_1 (4:Nat)))/\A z2/\A (g.P.ink z3.toNat (5:Nat)=g.P.ink g_1 (5:Nat)))/\A z2/\A (g.P.ink z3.toNat (6:Nat)=g.P.ink g_1 (6:Nat)))/\A z2/\A (g.P.ink z3.toNat (7:Nat)=g.P.ink g_1 (7:Nat)))/\True)/\∀ g_2:Nat,let z17:=(↑g_2:Int);let z8:=(g.P.p g_1 z17.toNat); (ch2 g g_1).pre g_2->True/\K (decide (z17<z12)) (A (z7<=z17/\z17<z12)/\T7 (K (decide (z8.y<z7)) (T7 (A z1/\A z16)) (T3 (A (z9<=(16:Int)*z14/\(16:Int)*z14<=z11)/\T3 (K (decide ((16:Int)*z14<=z8.y)) (T5 (A z1/\A z16)) (T5 (K (decide (z8.x0<z7)) (T3 (A z1/\A z16)) (T3 (A (z9<=(16:Int)*z15/\(16:Int)*z15<=z11)/\True/\True/\K (decide ((16:Int)*z15<z8.x1)) z23 (A (z9<=z17+z22/\z17+z22<=z11)/\True/\∃ (g':Nat),A ((ch2 g g_1).pre g')/\((z4/\z5/\z0/\z0/\z6/\(q1 z3)/\A (z13=z13)/\(A (g.P.m g_1=g.P.m g_1)/\∀ i:Nat,let z19:=(g.P.p g_1 i); i<g.P.m g_1->((True/\q1 z19.y)/\q1 z19.x0)/\q1 z19.x1)/\(q1 z12)/\(A z1/\A (z17+z22=(↑g':Int)))/\True)/\(chp (True/\A (g.P.m g_1=g.P.m g_1)/\∀ i:Nat,let z20:=(g.P.p g_1 i); i<g.P.m g_1->((True/\q1 z20.y)/\q1 z20.x0)/\q1 z20.x1) (fun j:Nat=>q2 (g.P.ink g_1 j)) 8)/\True)/\A ((ch2 g g_1).meas g'<(ch2 g g_1).meas g_2))))))))))) (T3 (True/\K (decide (g.P.ink g_1 z13=z7)&&(decide (g.P.ink g_1 (1:Nat)=z7)&&(decide (g.P.ink g_1 (2:Nat)=z7)&&(decide (g.P.ink g_1 (3:Nat)=z7)&&(decide (g.P.ink g_1 (4:Nat)=z7)&&(decide (g.P.ink g_1 (5:Nat)=z7)&&(decide (g.P.ink g_1 (6:Nat)=z7)&&(decide (g.P.ink g_1 (7:Nat)=z7)&&true)))))))) (True/\True/\A z1/\A ((4:Int)=z7)) (A (z9<=z3+z22/\z3+z22<=z11)/\True/\∃ (g':Nat),A ((ch1 g).pre g')/\((z4/\z5/\z0/\z0/\z6/\(A z1/\A (z3+z22=(↑g':Int)))/\True)/\True)/\A ((ch1 g).meas g'<(ch1 g).meas g_1))))))))) (True/\((z0/\True)/\A (Apl.PcOK g.P))/\True/\True/\q1 z7))))))) (by kernel_rfl) ?_;simp only [chp];simp only [cln,lw,xA];simp only [Nat.reduceAdd,zer,lA,lI];have hw:=hg.w;have hh:=hg.h;have hn:=hg.P.n;have hsz:(decide (1<=(g.w:Int))&&(decide ((g.w:Int)<=256)&&(decide (1<=(g.h:Int))&&decide ((g.h:Int)<=256))))=true:=by
  simp only [lr,lA]; omega
 refine ⟨fun h=>(by rw [hsz] at h; cases h),fun _=>⟨fun h=>by omega,fun _=>⟨⟨0,lm _,rfl⟩,fun k hk=>⟨fun hlt=>?_,fun _=>hg.P⟩⟩⟩⟩;have hkn:k<g.P.n:=by omega
 have hv:=hg.P.v k hkn;have hl:=aS0 hv;have hm:g.P.m k<=300000000:=by
  have e:(Pcs.L g.P k).length=g.P.m k:=aE4 _ _;rwa [e] at hl
 have hne:=hg.P.ne k hkn;refine ⟨by omega,⟨hv,by omega⟩,fun h=>by omega,fun _=>⟨⟨0,⟨hkn,lm _⟩,rfl⟩,fun j hj=>⟨fun hjl=>?_,fun _=>⟨fun h=>absurd h (hg.nz k hkn),fun _=>⟨by omega,k+1,hkn,by omega,by show g.P.n-(k+1)<g.P.n-k; omega⟩⟩⟩⟩⟩;have hr:=hg.r k j hkn (by omega);exact ⟨by omega,fun h=>by omega,fun _=>⟨by omega,fun h=>by omega,fun _=>⟨fun h=>by omega,fun _=>⟨by omega,fun h=>by omega,fun _=>⟨by omega,j+1,⟨hkn,by omega⟩,by omega,by show g.P.m k-(j+1)<g.P.m k-j; omega⟩⟩⟩⟩⟩
end Apt
set_option linter.unusedSimpArgs false
set_option linter.unusedVariables false
namespace Ofl
open Go.RowKit Go.Lib Go.Sort Sx Num Aff Con Rga Rgl Rgm Rgn Rgf Gat Gar Ows Apl Apt
set_option maxRecDepth 100000
theorem bC3 {L:List Rn}(h:L≠[]) (r:Rn):(rI (addR L r) 0).y=(rI L 0).y/\(rI (addR L r) 0).x0=(rI L 0).x0:=by
 rcases al5 L with rfl | ⟨P,s,rfl⟩
 ·exact absurd rfl h
 rw [az8];cases P with
 | nil=>
  split
  ·split<;>exact ⟨rfl,rfl⟩
  ·exact ⟨rfl,rfl⟩
 | cons q P=>
  split
  ·split<;>exact ⟨rfl,rfl⟩
  ·exact ⟨rfl,rfl⟩
theorem b80 {L:List Rn}{r:Rn}(h:r.x0<r.x1):0<(addR L r).length:=by
 rcases al5 L with rfl | ⟨P,s,rfl⟩
 ·rw [add_nil,lg h]; exact Nat.zero_lt_one
 ·rw [az8,lg h];split<;>simp
theorem az7 {L:List Rn}{y x y' x':Int}(h:aftE L y x) (hh:y<y'\/(y=y'/\x<=x')):aftE L y' x':=fun s hs=>by
 have:=h s hs
 omega
def Gt.Q (G:Gt):Pcs:=⟨G.n,G.m,G.p,G.ink⟩
theorem au0 (G:Gt) (k:Nat) (L:List Rn):Pcs.L (Gt.Q (putP G k L)) k=L:=by
 show Lf (fun j=>bif decide (k=k) then rI L j else G.p k j) (updN G.m k L.length k)=L;rw [ag8];have:(fun j=>bif decide (k=k) then rI L j else G.p k j)=rI L:=by funext j; rw [lk rfl]; rfl
 rw [this,Lf_rI]
theorem aG7 (G:Gt) {k j:Nat}(L:List Rn) (h:j≠k):Pcs.L (Gt.Q (putP G k L)) j=Pcs.L (Gt.Q G) j:=by
 show Lf (fun i=>bif decide (j=k) then rI L i else G.p j i) (updN G.m k L.length j)=_;rw [ap7 (xH h)];have:(fun i=>bif decide (j=k) then rI L i else G.p j i)=G.p j:=by funext i; rw [li h]; rfl
 rw [this];rfl
def ck (f:Nat->Vec) (W:Nat) (y x:Int):List Int:=kOf (f (y.toNat*W+x.toNat))
def Dn (W:Nat) (y x:Nat) (y' x':Int):Prop:=0<=y'/\(0<=x'/\x'<W)/\(y'<y\/(y'=y/\x'<x))
structure GJ (f:Nat->Vec) (W y x:Nat) (G:Gt):Prop where
 has:∀ l,G.has l=true<->∃ k,k<G.n/\kOf (G.ink k)=l
 val:∀ k,k<G.n->G.val (kOf (G.ink k))=k
 nz:∀ k,k<G.n->kOf (G.ink k)≠nul
 from':∀ k,k<G.n->∃ i,G.ink k=f i
 v:∀ k,k<G.n->vld (Pcs.L (Gt.Q G) k)
 ne:∀ k,k<G.n->0<G.m k
 e:∀ k,k<G.n->aftE (Pcs.L (Gt.Q G) k) y x
 m:∀ k,k<G.n->∀ y' x',mem (Pcs.L (Gt.Q G) k) y' x'=true<->Dn W y x y' x'/\ck f W y' x'=kOf (G.ink k)
 cov:∀ y' x',Dn W y x y' x'->ck f W y' x'≠nul->∃ k,k<G.n/\kOf (G.ink k)=ck f W y' x'
 ord:∀ k,k+1<G.n->(G.p k 0).y<(G.p (k+1) 0).y\/((G.p k 0).y=(G.p (k+1) 0).y/\(G.p k 0).x0<=(G.p (k+1) 0).x0)
structure GI (f:Nat->Vec) (W y x cnt:Nat) (G:Gt):Prop where
 nf:G.full=true->4096<cnt
 nc:G.n<=cnt
 n4:G.n<=4096
 tot:(al (Gt.Q G) G.n).length<=cnt
 j:G.full=false->GJ f W y x G
theorem GI.mono {f W y x c d G} (h:GI f W y x c G) (hc:c<=d):GI f W y x d G:=⟨fun hf=>xe (h.nf hf) hc,xh h.nc hc,h.n4,xh h.tot hc,h.j⟩
theorem as9 {P Q:Pcs}:∀ n,(∀ k,k<n->P.m k=Q.m k)->(al P n).length=(al Q n).length
 | 0,_=>rfl
 | n+1,h=>by
  show (al P n++alr P n (P.m n)).length=(al Q n++alr Q n (Q.m n)).length;rw [lv,lv,as8,as8,as9 n (fun k hk=>h k (by omega)),h n (by omega)]
theorem aR5 {P Q:Pcs}{c:Nat}:∀ n,c<n->(∀ k,k<n->k≠c->P.m k=Q.m k)->P.m c<=Q.m c+1->(al P n).length<=(al Q n).length+1
 | n+1,hc,h,h1=>by
  show (al P n++alr P n (P.m n)).length<=(al Q n++alr Q n (Q.m n)).length+1;rw [lv,lv,as8,as8];by_cases hcn:c=n
  ·subst hcn;rw [as9 (Q:=Q) c (fun k hk=>h k (by omega) (by omega))];omega
  ·have:=aR5 (P:=P) (Q:=Q) n (by omega) (fun k hk hne=>h k (by omega) hne) h1
   rw [h n (by omega) (xH hcn)];omega
section
variable {f:Nat->Vec}{W y x to cnt:Nat}{G:Gt}
theorem aC3 (hto:x<to) (hW:to<=W) (y' x':Int):Dn W y to y' x'<->(Dn W y x y' x'\/(y'=y/\(x:Int)<=x'/\x'<to)):=by
 unfold Dn;omega
theorem aD0 (hs:∀ k,x<=k->k<to->kOf (f (y*W+k))=kOf (f (y*W+x))) {y' x':Int}(h:y'=y/\(x:Int)<=x'/\x'<to):ck f W y' x'=kOf (f (y*W+x)):=by
 obtain ⟨rfl,h1,h2⟩:=h;unfold ck;rw [lw];exact hs x'.toNat (by omega) (by omega)
theorem bE7 (J:GJ f W y x G) (hy:y<8192) (hW:W<=8192) (hto:x<to) (htW:to<=W) (hs:∀ k,x<=k->k<to->kOf (f (y*W+k))=kOf (f (y*W+x))) {k:Nat}(hk:k<G.n) (hv:kOf (G.ink k)=kOf (f (y*W+x))) :
  GJ f W y to (putP G k (grw G k ⟨y,x,to⟩)):=by
 have hr:okR ⟨(y:Int),x,to⟩:=⟨⟨⟨by show -8192<=(y:Int); omega,by show (y:Int)<8192; omega⟩,⟨by show -8192<=(x:Int); omega,by show (x:Int)<=8192; omega⟩,by show -8192<=(to:Int); omega,by show (to:Int)<=8192; omega⟩,by show (x:Int)<to; omega⟩
 have hL:grw G k ⟨y,x,to⟩=addR (Pcs.L (Gt.Q G) k) ⟨y,x,to⟩:=rfl;have hadd:=b79 (J.v k hk) (r:=⟨y,x,to⟩) (fun _=>hr) (b78 (J.v k hk) (J.e k hk));have hnd:∀ j,j<G.n->kOf (G.ink j)=kOf (f (y*W+x))->j=k:=fun j hj he=>by
  have h1:=J.val j hj;have h2:=J.val k hk;rw [he] at h1;rw [hv,h1] at h2;omega
 have hne0:Pcs.L (Gt.Q G) k≠[]:=fun hc=>by
  have:=J.ne k hk
  have e:(Pcs.L (Gt.Q G) k).length=G.m k:=aE4 _ _;rw [hc] at e;simp at e;omega
 have first:∀ j,j<G.n->((putP G k (grw G k ⟨y,x,to⟩)).p j 0).y=(G.p j 0).y/\((putP G k (grw G k ⟨y,x,to⟩)).p j 0).x0=(G.p j 0).x0:=fun j hj=>by
  show (bif decide (j=k) then rI (grw G k ⟨y,x,to⟩) 0 else G.p j 0:Rn).y=_/\(bif decide (j=k) then rI (grw G k ⟨y,x,to⟩) 0 else G.p j 0:Rn).x0=_;by_cases hjk:j=k
  ·subst hjk;rw [lk rfl,hL];simp only [xK];have h1:=bC3 hne0 ⟨y,x,to⟩;have h2:rI (Pcs.L (Gt.Q G) j) 0=G.p j 0:=aR8 _ (J.ne j hj);rw [h2] at h1;exact h1
  ·rw [li hjk];exact ⟨rfl,rfl⟩
 refine ⟨J.has,J.val,J.nz,J.from',fun j hj=>?_,fun j hj=>?_,fun j hj=>?_,fun j hj y' x'=>?_,fun y' x' hd hz=>?_,fun j hj=>?_⟩
 ·by_cases hjk:j=k
  ·subst hjk; rw [au0,hL]; exact hadd.1
  ·rw [aG7 _ _ hjk]; exact J.v j hj
 ·show 0<updN G.m k _ j;by_cases hjk:j=k
  ·subst hjk; rw [ag8,hL]; exact b80 (by show (x:Int)<to; omega)
  ·rw [ap7 (xH hjk)]; exact J.ne j hj
 ·by_cases hjk:j=k
  ·subst hjk; rw [au0,hL]; exact bX9 (J.e j hj) (by show (x:Int)<=to; omega)
  ·rw [aG7 _ _ hjk]; exact az7 (J.e j hj) (by omega)
 ·show _<->_/\ck f W y' x'=kOf (G.ink j);rw [aC3 hto htW];by_cases hjk:j=k
  ·subst hjk;rw [au0,hL,hadd.2.1,xk,J.m j hj,ai5];constructor
   ·rintro (⟨h1,h2⟩ | ⟨h1,h2,h3⟩)
    ·exact ⟨.inl h1,h2⟩
    ·exact ⟨.inr ⟨h1.symm,h2,h3⟩,by rw [aD0 hs ⟨h1.symm,h2,h3⟩,hv]⟩
   ·rintro ⟨h1 | h1,h2⟩
    ·exact .inl ⟨h1,h2⟩
    ·exact .inr ⟨h1.1.symm,h1.2⟩
  ·rw [aG7 _ _ hjk,J.m j hj];constructor
   ·rintro ⟨h1,h2⟩; exact ⟨.inl h1,h2⟩
   ·rintro ⟨h1 | h1,h2⟩
    ·exact ⟨h1,h2⟩
    ·rw [aD0 hs h1] at h2;exact absurd (hnd j hj h2.symm) hjk
 ·rcases (aC3 hto htW y' x').1 hd with h1 | h1
  ·exact J.cov y' x' h1 hz
  ·exact ⟨k,hk,by show kOf (G.ink k)=_; rw [hv,aD0 hs h1]⟩
 ·have hj:j+1<G.n:=hj;have f1:=first j (by omega)
  have f2:=first (j+1) hj
  rw [f1.1,f1.2,f2.1,f2.2];exact J.ord j hj
theorem bp6 (G:Gt) (v:Vec) {j:Nat}(h:j≠G.n):Pcs.L (Gt.Q (fresh G v)) j=Pcs.L (Gt.Q G) j:=by
 show Lf (G.p j) (updN G.m G.n 0 j)=_;rw [ap7 (xH h)];rfl
theorem bY3 (G:Gt) (v:Vec):Pcs.L (Gt.Q (fresh G v)) G.n=[]:=by
 show Lf (G.p G.n) (updN G.m G.n 0 G.n)=_;rw [ag8];rfl
theorem a07 (G:Gt) (v:Vec) {j:Nat}(h:j<G.n):(fresh G v).ink j=G.ink j:=by
 show (fun i=>bif decide (j<G.n) then G.ink j i else v i)=_;rw [lk h];rfl
theorem by3 (G:Gt) (v:Vec):(fresh G v).ink G.n=v:=by
 show (fun i=>bif decide (G.n<G.n) then G.ink G.n i else v i)=_;rw [li (uH _)];rfl
theorem bG8 (J:GJ f W y x G) (hy:y<8192) (hW:W<=8192) (hto:x<to) (htW:to<=W) (hs:∀ k,x<=k->k<to->kOf (f (y*W+k))=kOf (f (y*W+x))) (hz:kOf (f (y*W+x))≠nul) (hh:G.has (kOf (f (y*W+x)))=false) :
  GJ f W y to (putP (fresh G (f (y*W+x))) G.n (grw (fresh G (f (y*W+x))) G.n ⟨y,x,to⟩)):=by
 generalize hvv:f (y*W+x)=v at *
 have hr:okR ⟨(y:Int),x,to⟩:=⟨⟨⟨by show -8192<=(y:Int); omega,by show (y:Int)<8192; omega⟩,⟨by show -8192<=(x:Int); omega,by show (x:Int)<=8192; omega⟩,by show -8192<=(to:Int); omega,by show (to:Int)<=8192; omega⟩,by show (x:Int)<to; omega⟩
 have hL:grw (fresh G v) G.n ⟨y,x,to⟩=[⟨y,x,to⟩]:=by
  show addR (Pcs.L (Gt.Q (fresh G v)) G.n) ⟨y,x,to⟩=_;rw [bY3,add_nil,lg (by show (x:Int)<to; omega)]
 have hno:∀ j,j<G.n->kOf (G.ink j)≠kOf v:=fun j hj he=>by
  have:=(J.has (kOf v)).2 ⟨j,hj,he⟩
  rw [hh] at this;cases this
 have inkL:∀ j,j<G.n->(putP (fresh G v) G.n (grw (fresh G v) G.n ⟨y,x,to⟩)).ink j=G.ink j:=fun j hj=>a07 G v hj
 have inkN:(putP (fresh G v) G.n (grw (fresh G v) G.n ⟨y,x,to⟩)).ink G.n=v:=by3 G v;have LL:∀ j,j<G.n->Pcs.L (Gt.Q (putP (fresh G v) G.n (grw (fresh G v) G.n ⟨y,x,to⟩))) j=Pcs.L (Gt.Q G) j:=fun j hj=>by
  rw [aG7 _ _ (by omega:j≠G.n),bp6 G v (by omega)]
 have LN:Pcs.L (Gt.Q (putP (fresh G v) G.n (grw (fresh G v) G.n ⟨y,x,to⟩))) G.n=[⟨y,x,to⟩]:=by rw [au0,hL]
 have valE:∀ l,(putP (fresh G v) G.n (grw (fresh G v) G.n ⟨y,x,to⟩)).val l=bif decide (l=kOf v) then (G.n:Int) else G.val l:=fun l=>rfl
 have hasE:∀ l,(putP (fresh G v) G.n (grw (fresh G v) G.n ⟨y,x,to⟩)).has l=(decide (l=kOf v)||G.has l):=fun l=>rfl
 have split:∀ {j},j<G.n+1->j<G.n\/j=G.n:=fun h=>by omega
 refine ⟨fun l=>?_,fun j hj=>?_,fun j hj=>?_,fun j hj=>?_,fun j hj=>?_,fun j hj=>?_,fun j hj=>?_,fun j hj y' x'=>?_,fun y' x' hd hz'=>?_,fun j hj=>?_⟩
 ·rw [hasE,xk,lA,J.has];constructor
  ·rintro (h | ⟨j,h1,h2⟩)
   ·exact ⟨G.n,lae _,by rw [inkN]; exact h.symm⟩
   ·exact ⟨j,uA h1,by rw [inkL j h1]; exact h2⟩
  ·rintro ⟨j,h1,h2⟩;rcases split h1 with h | rfl
   ·exact .inr ⟨j,h,by rw [inkL j h] at h2; exact h2⟩
   ·exact .inl (by rw [inkN] at h2; exact h2.symm)
 ·rw [valE];rcases split hj with h | rfl
  ·rw [inkL j h,li (hno j h)]; exact J.val j h
  ·rw [inkN,lk rfl]; rfl
 ·rcases split hj with h | rfl
  ·rw [inkL j h]; exact J.nz j h
  ·rw [inkN]; exact hz
 ·rcases split hj with h | rfl
  ·rw [inkL j h]; exact J.from' j h
  ·rw [inkN]; exact ⟨_,hvv.symm⟩
 ·rcases split hj with h | rfl
  ·rw [LL j h]; exact J.v j h
  ·rw [LN]; exact af1.2 ⟨hr,fun _ h=>(lJ h).elim,bp9⟩
 ·rcases split hj with h | rfl
  ·show 0<updN (updN G.m G.n 0) G.n _ j;rw [ap7 (by omega),ap7 (by omega)]; exact J.ne j h
  ·show 0<updN _ G.n _ G.n;rw [ag8,hL]; exact Nat.zero_lt_one
 ·rcases split hj with h | rfl
  ·rw [LL j h]; exact az7 (J.e j h) (by omega)
  ·rw [LN]; exact (ao9 (P:=[])).2 (.inr ⟨rfl,xN _⟩)
 ·rw [aC3 hto htW];rcases split hj with h | rfl
  ·rw [LL j h,inkL j h,J.m j h];constructor
   ·rintro ⟨h1,h2⟩; exact ⟨.inl h1,h2⟩
   ·rintro ⟨h1 | h1,h2⟩
    ·exact ⟨h1,h2⟩
    ·rw [aD0 (by rw [hvv]; exact hs) h1,hvv] at h2;exact absurd h2.symm (hno j h)
  ·rw [LN,inkN,aJ6,ai5];constructor
   ·rintro ⟨h1,h2,h3⟩;exact ⟨.inr ⟨h1.symm,h2,h3⟩,by rw [aD0 (by rw [hvv]; exact hs) ⟨h1.symm,h2,h3⟩,hvv]⟩
   ·rintro ⟨h1 | h1,h2⟩
    ·obtain ⟨j,h3,h4⟩:=J.cov y' x' h1 (by rw [h2]; exact hz);exact absurd (h4.trans h2) (hno j h3)
    ·exact ⟨h1.1.symm,h1.2⟩
 ·rcases (aC3 hto htW y' x').1 hd with h1 | h1
  ·obtain ⟨j,h2,h3⟩:=J.cov y' x' h1 hz';exact ⟨j,uA h2,by rw [inkL j h2]; exact h3⟩
  ·exact ⟨G.n,lae _,by rw [inkN,aD0 (by rw [hvv]; exact hs) h1,hvv]⟩
 ·have hj:j+1<G.n+1:=hj;have pE:∀ i,i<G.n->(putP (fresh G v) G.n (grw (fresh G v) G.n ⟨y,x,to⟩)).p i 0=G.p i 0:=fun i hi=>by
   show (bif decide (i=G.n) then _ else G.p i 0:Rn)=_;rw [li (by omega)];rfl
  rcases split hj with h | h
  ·rw [pE j (by omega),pE (j+1) h]; exact J.ord j h
  ·have pN:(putP (fresh G v) G.n (grw (fresh G v) G.n ⟨y,x,to⟩)).p G.n 0=⟨y,x,to⟩:=by
    show (bif decide (G.n=G.n) then rI (grw (fresh G v) G.n ⟨y,x,to⟩) 0 else G.p G.n 0:Rn)=_;rw [lk rfl,hL];rfl
   rw [h,pN,pE j (by omega)];have hne:=J.ne j (by omega);have okj:=(J.v j (by omega)).1 _ (aF0 (P:=Gt.Q G) hne);have hm:mem (Pcs.L (Gt.Q G) j) (G.p j 0).y (G.p j 0).x0=true:=(mem_iff _ _ _).2 ⟨_,aF0 (P:=Gt.Q G) hne,rfl,xN _,okj.2⟩;have hd:=((J.m j (by omega) _ _).1 hm).1;unfold Dn at hd;show (G.p j 0).y<(y:Int)\/((G.p j 0).y=y/\(G.p j 0).x0<=x);omega
theorem bV9 (h:GI f W y x cnt G) (hy:y<8192) (hW:W<=8192) (hto:x<to) (htW:to<=W) (hs:∀ k,x<=k->k<to->kOf (f (y*W+k))=kOf (f (y*W+x))):GI f W y to (cnt+1) (nxt G (f (y*W+x)) ⟨y,x,to⟩):=by
 rw [bw8];have keep:G.full=true\/kOf (f (y*W+x))=nul->GI f W y to (cnt+1) G:=fun hc=>by
  refine ⟨fun hf=>uA (h.nf hf),ub h.nc,h.n4,ub h.tot,fun hf=>?_⟩;have J:=h.j hf;have hz:kOf (f (y*W+x))=nul:=hc.resolve_left (by rw [hf]; decide);refine ⟨J.has,J.val,J.nz,J.from',J.v,J.ne,fun k hk=>az7 (J.e k hk) (by omega),fun k hk y' x'=>?_,fun y' x' hd hz'=>?_,J.ord⟩
  ·rw [J.m k hk,aC3 hto htW];constructor
   ·rintro ⟨h1,h2⟩; exact ⟨.inl h1,h2⟩
   ·rintro ⟨h1 | h1,h2⟩
    ·exact ⟨h1,h2⟩
    ·rw [aD0 hs h1,hz] at h2;exact absurd h2.symm (J.nz k hk)
  ·rcases (aC3 hto htW y' x').1 hd with h1 | h1
   ·exact J.cov y' x' h1 hz'
   ·exact absurd (by rw [aD0 hs h1,hz]) hz'
 unfold nxtB;by_cases hc:kOf (f (y*W+x))=nul\/G.full=true
 ·rw [lg hc];exact keep hc.symm
 rw [lb hc];have hz:kOf (f (y*W+x))≠nul:=fun e=>hc (.inl e)
 have hf:G.full=false:=by
  cases hh:G.full with
  | false=>rfl
  | true=>exact absurd (.inr hh) hc
 have J:=h.j hf;by_cases hh:G.has (kOf (f (y*W+x)))=true
 ·rw [lg hh];obtain ⟨k,hk,he⟩:=(J.has _).1 hh;have ek:(G.val (kOf (f (y*W+x)))).toNat=k:=by rw [<-he,J.val k hk]; rfl
  rw [ek];refine ⟨fun hf'=>?_,ub h.nc,h.n4,?_,fun _=>bE7 J hy hW hto htW hs hk he⟩
  ·have hf':G.full=true:=hf';rw [hf] at hf'; cases hf'
  ·refine xh (aR5 (P:=Gt.Q (putP G k (grw G k ⟨y,x,to⟩))) (Q:=Gt.Q G) (c:=k) G.n hk (fun j hj hne=>?_) ?_) (Nat.succ_le_succ h.tot)
   ·show updN G.m k _ j=G.m j;rw [ap7 (xH hne)]
   ·show updN G.m k _ k<=G.m k+1;rw [ag8];have:=aW8 (Rg.L ⟨G.m k,G.p k⟩) ⟨y,x,to⟩
    rwa [Rg.len] at this
 ·rw [lb hh];by_cases h4:G.n=4096
  ·rw [lg h4];exact ⟨fun _=>by have:=h.nc; omega,ub h.nc,h.n4,ub h.tot,fun hf'=>by cases hf'⟩
  ·rw [lb h4];have hn4:=h.n4;have hnc:=h.nc;refine ⟨fun hf'=>?_,by show G.n+1<=cnt+1; omega,by show G.n+1<=4096; omega,?_,fun _=>bG8 J hy hW hto htW hs hz (by simpa using hh)⟩
   ·have hf':G.full=true:=hf';rw [hf] at hf'; cases hf'
   ·show (al _ G.n++alr _ G.n _).length<=cnt+1;rw [lv,as8];have e1:(al (Gt.Q (putP (fresh G (f (y*W+x))) G.n (grw (fresh G (f (y*W+x))) G.n ⟨y,x,to⟩))) G.n).length=(al (Gt.Q G) G.n).length:=as9 _ (fun j hj=>by
     show updN (updN G.m G.n 0) G.n _ j=G.m j;rw [ap7 (by omega),ap7 (by omega)])
    have e2:(Gt.Q (putP (fresh G (f (y*W+x))) G.n (grw (fresh G (f (y*W+x))) G.n ⟨y,x,to⟩))).m G.n<=1:=by
     show updN _ G.n _ G.n<=1;rw [ag8];have h1:=aW8 (Rg.L ⟨updN G.m G.n 0 G.n,G.p G.n⟩) ⟨y,x,to⟩;rw [Rg.len] at h1;have h2:(grw (fresh G (f (y*W+x))) G.n ⟨y,x,to⟩).length<=updN G.m G.n 0 G.n+1:=h1;rw [ag8] at h2;exact h2
    have:=h.tot
    omega
end
theorem bO7 {f:Nat->Vec}{W y:Nat}(hy:y<8192) (hW:W<=8192):∀ n x cnt G,x<=W->W<=x+n->GI f W y x cnt G->GI f W y W (cnt+(W-x)) (rowG (fun i=>f (y*W+i)) y W n x G)
 | 0,x,cnt,G,h1,h2,h=>by
  obtain rfl:x=W:=by omega
  rw [xB];exact h
 | n+1,x,cnt,G,h1,h2,h=>by
  rw [as1];by_cases hx:x<W
  ·rw [lg hx];have hb:=bi5 (f:=fun i=>f (y*W+i)) hx;have hg:=bV9 h hy hW hb.1.1 hb.1.2 (fun k hk1 hk2=>hb.2.1 k hk1 hk2);have:=bO7 hy hW n _ _ _ hb.1.2 (by omega) hg
   exact this.mono (by omega)
  ·rw [lb hx];obtain rfl:x=W:=by omega
   rw [xB];exact h
theorem bW0 {f:Nat->Vec}{W y cnt:Nat}{G:Gt}(h:GI f W y W cnt G):GI f W (y+1) 0 cnt G:=by
 have hd:∀ y' x',Dn W (y+1) 0 y' x'<->Dn W y W y' x':=fun y' x'=>by unfold Dn; omega
 refine ⟨h.nf,h.nc,h.n4,h.tot,fun hf=>?_⟩;have J:=h.j hf;exact ⟨J.has,J.val,J.nz,J.from',J.v,J.ne,fun k hk=>az7 (J.e k hk) (by omega),fun k hk y' x'=>by rw [hd]; exact J.m k hk y' x',fun y' x' hdd=>J.cov y' x' ((hd _ _).1 hdd),J.ord⟩
theorem b67 (f:Nat->Vec) {W:Nat}(hW:W<=8192):∀ y,y<=8192->GI f W y 0 (y*W) (ofR f W y)
 | 0,_=>by
  refine ⟨fun h=>(by cases h),lm _,lm _,lm _,fun _=>?_⟩;refine ⟨fun l=>⟨fun h=>(by cases h),fun ⟨k,h,_⟩=>absurd h (lj _)⟩,fun k h=>absurd h (lj _),fun k h=>absurd h (lj _),fun k h=>absurd h (lj _),fun k h=>absurd h (lj _),fun k h=>absurd h (lj _),fun k h=>absurd h (lj _),fun k h=>absurd h (lj _),fun y' x' h=>?_,fun k h=>absurd h (lj _)⟩;unfold Dn at h;omega
 | y+1,hy=>by
  have h:=bO7 (f:=f) (y:=y) (by omega) hW W 0 _ _ (lm _) (by omega) (b67 f hW y (by omega));have e:ofR f W (y+1)=rowG (fun i=>f (y*W+i)) y W W 0 (ofR f W y):=by
   show rowA _ _ _ _=_;rw [bf5];rfl
  rw [e];refine bW0 (h.mono ?_);rw [lK,lah,ue];exact lh _
structure OfOK (g:OfG) (P:Pcs):Prop where
 n:(ofA g).full=false
 c:ChG.Ok ⟨g.w,g.h,P⟩
 from':∀ k,k<P.n->∃ i,P.ink k=g.f i
 m:∀ k,k<P.n->∀ y x,mem (Pcs.L P k) y x=true<->((0<=y/\y<16*g.h)/\0<=x/\x<16*g.w)/\ck g.f (16*g.w) y x=kOf (P.ink k)
 cov:∀ y x,((0<=y/\y<16*(g.h:Int))/\0<=x/\x<16*(g.w:Int))->ck g.f (16*g.w) y x≠nul->∃ k,k<P.n/\kOf (P.ink k)=ck g.f (16*g.w) y x
theorem of_ok {g:OfG}(hw:1<=g.w/\g.w<=256) (hh:1<=g.h/\g.h<=256) (hc:256*g.w*g.h<=4096):OfOK g (Gt.P (ofA g)):=by
 have e:ofA g=ofR g.f (16*g.w) (16*g.h):=by rw [of_eq]; rfl
 have h:=b67 g.f (W:=16*g.w) (by omega) (16*g.h) (by omega);rw [<-e] at h;have hcnt:16*g.h*(16*g.w)=256*g.w*g.h:=by grind
 rw [hcnt] at h;have hf:(ofA g).full=false:=by
  cases hff:(ofA g).full with
  | false=>rfl
  | true=>have:=h.nf hff; omega
 have J:=h.j hf;have hP:Gt.P (ofA g)=Gt.Q (ofA g):=by
  show (⟨bif (ofA g).full then 0 else (ofA g).n,_,_,_⟩:Pcs)=_;rw [hf];rfl
 have hd:∀ y x:Int,Dn (16*g.w) (16*g.h) 0 y x<->((0<=y/\y<16*(g.h:Int))/\0<=x/\x<16*(g.w:Int)):=fun y x=>by unfold Dn; omega
 have hm:∀ k,k<(ofA g).n->∀ y x:Int,mem (Pcs.L (Gt.Q (ofA g)) k) y x=true<->((0<=y/\y<16*(g.h:Int))/\0<=x/\x<16*(g.w:Int))/\ck g.f (16*g.w) y x=kOf ((ofA g).ink k):=fun k hk y x=>by rw [J.m k hk,hd]
 have dist:∀ i j,i<j->j<(ofA g).n->kOf ((ofA g).ink i)≠kOf ((ofA g).ink j):=fun i j hij hj he=>by
  have h1:=J.val i (by omega);have h2:=J.val j hj;rw [he,h2] at h1;omega
 refine ⟨hf,?_,?_,?_,?_⟩
 ·rw [hP];refine ⟨hw,hh,⟨h.n4,xh h.tot (by omega),J.v,J.ne,dist,fun i j hij hj y x h1 h2=>?_,J.ord⟩,J.nz,fun k r hk hr=>?_⟩
  ·have a:=((hm i (by have:j<(ofA g).n:=hj; omega) y x).1 h1).2;have b:=((hm j hj y x).1 h2).2;exact dist i j hij hj (a.symm.trans b)
  ·have okr:=((J.v k hk).1 _ (aF0 (P:=Gt.Q (ofA g)) hr)).2;have a:=((hm k hk _ _).1 ((mem_iff _ _ _).2 ⟨_,aF0 (P:=Gt.Q (ofA g)) hr,rfl,xN _,okr⟩)).1;have b:=((hm k hk _ (((Gt.Q (ofA g)).p k r).x1-1)).1 ((mem_iff _ _ _).2 ⟨_,aF0 (P:=Gt.Q (ofA g)) hr,rfl,by omega,by omega⟩)).1;exact ⟨a.1,a.2.1,by have:=b.2.2; show ((Gt.Q (ofA g)).p k r).x1<=16*(g.w:Int); omega⟩
 ·rw [hP]; exact J.from'
 ·rw [hP]; exact hm
 ·rw [hP]; exact fun y x hin hz=>J.cov y x ((hd y x).2 hin) hz
end Ofl
set_option linter.unusedSimpArgs false
set_option linter.unusedVariables false
namespace Ftp
open Go.RowKit Sx Num Aff Con Rga Gat Gar
theorem aR1 {f f':Nat->Vec}{len x:Nat}(h:∀ k,k<len->f k=f' k) (hx:x<len):∀ n to,brkG f len x n to=brkG f' len x n to
 | 0,_=>rfl
 | n+1,to=>by
  unfold brkG;by_cases ht:to<len
  ·rw [h to ht,h x hx,aR1 h hx n (to+1)]
  ·rw [lb (fun hc=>ht hc.1),lb (fun hc=>ht hc.1)]
theorem bB6 {f f':Nat->Vec}{len x:Nat}(h:∀ k,k<len->f k=f' k) (hx:x<len):brk f len x=brk f' len x:=aR1 h hx _ _
theorem aO7 {f f':Nat->Vec}{y:Int}{len:Nat}(h:∀ k,k<len->f k=f' k):∀ n x G,rowG f y len n x G=rowG f' y len n x G
 | 0,_,_=>rfl
 | n+1,x,G=>by
  rw [as1,as1];by_cases hx:x<len
  ·rw [lg hx,lg hx,bB6 h hx,h x hx];exact aO7 h n _ _
  ·rw [lb hx,lb hx]
theorem aO8 {f f':Nat->Vec}{y:Int}{len:Nat}(h:∀ k,k<len->f k=f' k) (G:Gt):rowA G y len f=rowA G y len f':=by
 rw [bf5];exact aO7 h _ _ _
theorem aZ5 {f f':Nat->Vec}{W:Nat}:∀ y,(∀ i,i<y*W->f i=f' i)->ofR f W y=ofR f' W y
 | 0,_=>rfl
 | y+1,h=>by
  show rowA (ofR f W y) y W (fun x=>f (y*W+x))=rowA (ofR f' W y) y W (fun x=>f' (y*W+x));have e:(y+1)*W=y*W+W:=Nat.succ_mul y W;rw [aZ5 y fun i hi=>h i (by omega)];exact aO8 (fun k hk=>h _ (by omega)) _
end Ftp
set_option linter.unusedSimpArgs false
set_option linter.unusedVariables false
namespace Ftq
open Gar
open Go.RowKit Sx Num Aff Afi Img Imh Imp Imq Rga Rgl Blend Ble Lsg Lta Lrd Lri Luc Lck Lgr Lcs Lst Lch Lcl Lgp Lsc Cmp Lpm Lpa Lpr Lbt Lpn Lpc Lpd Lpe Lpf Lrw Lto Lat Lun Ltp
theorem bt6 (L:LsG):snoc L (L.it L.n)={ L with n:=L.n+1 }:=by
 unfold snoc;congr 1;funext i;split
 ·rename_i h; rw [h]
 ·rfl
def inkV (v:Vec):Ink:=⟨v 0,v 1,v 2,v 3,v 4,v 5,v 6,v 7⟩
theorem bO5 (v:Vec) {j:Nat}(hj:j<8):inkF (inkV v) j=v j:=match j,hj with | 0,_=>rfl | 1,_=>rfl | 2,_=>rfl | 3,_=>rfl | 4,_=>rfl | 5,_=>rfl | 6,_=>rfl | 7,_=>rfl
def pcI (P:Gar.Pcs) (k:Nat):It:=opq (P.m k) (P.p k) (inkV (P.ink k))
def flL (T:LsG) (P:Gar.Pcs) (n:Nat):LsG:=⟨T.w,T.h,T.ni,T.nm,n,pcI P⟩
theorem bi0 (T:LsG) (P:Gar.Pcs) (n:Nat):flL T P (n+1)=snoc (flL T P n) (pcI P n):=(bt6 (flL T P n)).symm
theorem b75 {T:LsG}(f:Nat->It) (h:chkL T=0):chkL ⟨T.w,T.h,T.ni,T.nm,0,f⟩=0:=by
 unfold chkL at h;split at h
 ·omega
 split at h
 ·omega
 split at h
 ·omega
 rename_i h1 h2 h3;generalize hL:(⟨T.w,T.h,T.ni,T.nm,0,f⟩:LsG)=L;have c1:¬ (L.w<1\/256<L.w\/L.h<1\/256<L.h):=by rw [<-hL]; exact h1
 have c2:¬ (L.ni<1\/8<L.ni):=by rw [<-hL]; exact h2
 have c3:¬ fstE (nmE L) L.ni 0≠0:=by rw [<-hL]; exact h3
 have c4:¬ 5000<L.n:=by rw [<-hL]; show ¬ 5000<0; decide
 have c5:¬ fstE (itE L) L.n 0≠0:=by rw [<-hL]; exact fun hc=>hc rfl
 have c6:¬ 0<opI L L.n:=by rw [<-hL]; show ¬ (0:Int)<0; decide
 unfold chkL;rw [lb c1,lb c2,lb c3,lb c4,lb c5,lb c6]
theorem bW8 {T:LsG}(P:Gar.Pcs) (h:chkL T=0):chkL (flL T P 0)=0:=b75 _ h
structure MayL (T:LsG) (P:Gar.Pcs):Prop where
 n:P.n<=4096
 r:∀ k,k<P.n->aj0 ⟨P.m k,P.p k⟩=0
 few:∀ k,k<P.n->∀ j,T.ni<=j->j<8->P.ink k j=0
theorem bi4 {T:LsG}{P:Gar.Pcs}(h:chkL T=0) (hP:MayL T P):∀ n,n<=P.n->chkL (flL T P n)=0
 | 0,_=>bW8 P h
 | n+1,hn=>by
  have:=hP.n
  rw [bi0];exact bI7 (bi4 h hP n (by omega)) (by show n<5000; omega) rfl (b74 (hP.r n (by omega)) fun j h1 h2=>by
   show inkF (inkV (P.ink n)) j=0;rw [bO5 _ h2];exact hP.few n (by omega) j h1 h2)
theorem bB5 {T:LsG}{P:Gar.Pcs}(h:chkL T=0) (hP:MayL T P) (x y:Int):∀ n,n<=P.n->
  (∀ j,j<8->(∀ k,k<n->¬ covR (P.p k) (P.m k) x y)->ag7 (ndP (flL T P n)) x y (1+j)=0)/\
  (∀ k,k<n->covR (P.p k) (P.m k) x y->(∀ i,i<n->covR (P.p i) (P.m i) x y->i=k)->∀ j,j<8->ag7 (ndP (flL T P n)) x y (1+j)=P.ink k j)
 | 0,_=>by
  refine ⟨fun j _ _=>?_,fun k hk=>absurd hk (lj k)⟩;show ad5 (1+j)=0;unfold ad5;exact lb (by omega)
 | n+1,hn=>by
  obtain ⟨i1,i2⟩:=bB5 h hP x y n (by omega);have e:ag7 (ndP (flL T P (n+1))) x y=if covR (P.p n) (P.m n) x y then ae9 (pcI P n) x y (ag7 (ndP (flL T P n)) x y) else ag7 (ndP (flL T P n)) x y:=by
   rw [bi0];exact bB4 (bi4 h hP n (by omega)) rfl x y
  rw [e];refine ⟨fun j hj hno=>?_,fun k hk hc hu j hj=>?_⟩
  ·rw [lb (hno n (by omega))];exact i1 j hj fun k hk=>hno k (by omega)
  ·by_cases hkn:k=n
   ·subst hkn;rw [lg hc];show ae9 (opq (P.m k) (P.p k) (inkV (P.ink k))) x y _ (1+j)=_;rw [bI1,bO5 _ hj]
   ·have hnc:¬ covR (P.p n) (P.m n) x y:=fun hc2=>hkn ((hu n (by omega) hc2).symm)
    rw [lb hnc];exact i2 k (by omega) hc (fun i hi hci=>hu i (by omega) hci) j hj
end Ftq
set_option linter.unusedSimpArgs false
set_option linter.unusedVariables false
namespace Fpc
open Gar Lrw
open Go.RowKit Sx Num Aff Afi Img Imh Imp Imq Rga Rgl Rgn Blend Ble Lsg Lta Lrd Lri Luc Lck Lgr Lcs Lst Lch Lcl Lgp Lsc Cmp Lpm Lpa Lpr Lbt Lpn Lpc Lpd Lpe Lpf Lto Lat Lun Ltp Gat Apl Apt Ofl Ftp
set_option maxRecDepth 100000
def pgV (L:LsG) (i:Nat):Vec:=fun j=>am4 (ndP L) L.ni ((i % (16*L.w.toNat):Nat):Int) ((i / (16*L.w.toNat):Nat):Int) j
def piO (L:LsG):OfG:=⟨L.w.toNat,L.h.toNat,256*L.w.toNat*L.h.toNat,pgV L⟩
noncomputable def piB (L:LsG):Gar.Pcs:=if chkL L=0 then Gar.Gt.P (ofA (piO L)) else ⟨0,fun _=>0,fun _ _=>⟨0,0,0⟩,fun _ _=>0⟩
noncomputable def piC (L:LsG):Int:=if chkL L=0 then (bif (ofA (piO L)).full then 2 else 0) else chkL L
theorem b18:∃ f,f=piB:=⟨_,rfl⟩
noncomputable def piP:LsG->Gar.Pcs:=Classical.choose b18
theorem bR1:piP=piB:=xv b18
theorem b19:∃ f,f=piC:=⟨_,rfl⟩
noncomputable def piE:LsG->Int:=Classical.choose b19
theorem bu9:piE=piC:=xv b19
noncomputable def gaP (L:LsG) (G:Gt):List SO:=
 [lsO L,.cells 2 (lst [.ref 37 (ndX (ndP L)),.int .i64 L.ni]) 75,
   .cells 4 (lst [.omap 3,.osl 4 0,.osl 5 0,.bool G.full]) 108,
   .mpi (.arr 8 .u8) false G.has (fun l=> .int .i64 (G.val l)),
   .deep 0 G.n 1 3 G.m (fun k i=>lst (rnL (G.p k i))) (fun _=>lst []) 111 70 none,
   .row 0 G.n 8 (fun i j=> .int .u8 (G.ink i j)) 28]
noncomputable def fpI (L:LsG):Inv:=⟨Nat,fun y=>chkL L=0/\y<=16*L.h.toNat,fun y=>⟨[(1,.own 0 0),(5,.own 2 0),(6,.own 1 0),(18,.int .i64 (16*L.h)),(19,.int .i64 y)],gaP L (ofR (pgV L) (16*L.w.toNat) y)⟩,fun y=>16*L.h.toNat-y⟩
noncomputable def fpC (L:LsG):Inv:=⟨Unit,fun _=>chkL L=0,fun _=>⟨[(1,.own 0 0),(5,.own 2 0),(6,.own 1 0)],
 [lsO L,.cells 2 (lst [.ref 37 (ndX (ndP L)),.int .i64 L.ni]) 75,.cells 4 (lst [.omap 3,.cap0,.cap0,.lit false]) 108,.mpi (.arr 8 .u8) false (fun _=>false) (fun _=> .any)]⟩,fun _=>0⟩
noncomputable def bZ4:FSpec:=aa3 13 (γ:=LsG) (fun | [.agg _ g]=>some (lsD g) | _=>none) (fun g=>[lsS g]) (fun g=>LsU8 g) (fun g=> .tup 2 (lst [pcS (piP g),.int .i64 (piE g)]))
set_option maxHeartbeats 1000000 in
theorem b25:aa2 Tryz.prog bZ4:=by
 refine aA2 (specs:=[be7,bZ6,bK4,Gar.bE0,be6]) (az5 ⟨a95,b27,bS0,Gar.bv5,bv7,trivial⟩) (eqs:=[]) (fun _ _ h=>(lJ h).elim) Aff.mixed Tryz.func13 rfl (by kernel_rfl) (fun _ _=>by kernel_rfl)
  (fun g=>(⟨[(3000004,.newsD [3] 0 bU1),(5,.cut (fpC g)),(6,.inv (fpI g))],[(5,[.ownC 2 1 111 1,.deepen 4 3 70,.ownC 2 2 28 8])]⟩:Ann)) (fun g=>lH (by kernel_rfl)) ?_
 rintro g hL;refine ab2 (B:=let V:=fun p:SV=>SVle [] [] p p;let A:=Sx.Ask;let z38:=((16:Nat)*g.w.toNat);let z36:=(7:Nat);let z35:=(6:Nat);let z34:=(5:Nat);let z33:=(4:Nat);let z32:=(3:Nat);let z31:=(2:Nat);let z30:=(1:Nat);let z29:=(0:Int);let z28:=(9223372036854775807:Int);let z27:=(-9223372036854775808:Int);let z26:=(16:Int);let z24:=(True/\A True);let z21:=(0:Nat);let z20:=(((True/\True)/\True)/\True);let z18:=(z26*g.w-z29);let z17:=(z21=z21);let z15:=(↑g.ni:Int);let z9:=(ndP g);let z12:=(ndOf (ndX z9));let z8:=(IntKind.i64=IntKind.i64);let q8:=fun p:Int=>A z8/\A (p=p);let z39:=(q8 (z26*g.h));let z7:=(IntKind.u8=IntKind.u8);let q7:=fun p:Int=>A z7/\A (p=p);let z4:=((((True/\q8 g.w)/\q8 g.h)/\A (g.ni=g.ni)/\∀ i:Nat,i<g.ni->True/\A (g.nm i=g.nm i))/\A (g.n=g.n)/\∀ i:Nat,i<g.n->(qT True (g.it i) (g.it i)));let z25:=((z4/\True)/\A (LsOK g));let z0:=(True/\((((((((((((((((((((((((((((((((((((True/\V (ndX z9 0))/\V (ndX z9 1))/\V (ndX z9 2))/\V (ndX z9 3))/\V (ndX z9 4))/\V (ndX z9 5))/\V (ndX z9 6))/\V (ndX z9 7))/\V (ndX z9 (8:Nat)))/\V (ndX z9 (9:Nat)))/\V (ndX z9 (10:Nat)))/\V (ndX z9 (11:Nat)))/\V (ndX z9 (12:Nat)))/\V (ndX z9 (13:Nat)))/\V (ndX z9 (14:Nat)))/\V (ndX z9 (15:Nat)))/\V (ndX z9 (16:Nat)))/\V (ndX z9 (17:Nat)))/\V (ndX z9 (18:Nat)))/\V (ndX z9 (19:Nat)))/\V (ndX z9 (20:Nat)))/\V (ndX z9 (21:Nat)))/\V (ndX z9 (22:Nat)))/\V (ndX z9 (23:Nat)))/\V (ndX z9 (24:Nat)))/\V (ndX z9 (25:Nat)))/\V (ndX z9 (26:Nat)))/\V (ndX z9 (27:Nat)))/\V (ndX z9 (28:Nat)))/\V (ndX z9 (29:Nat)))/\V (ndX z9 (30:Nat)))/\V (ndX z9 (31:Nat)))/\V (ndX z9 (32:Nat)))/\V (ndX z9 (33:Nat)))/\V (ndX z9 (34:Nat)))/\V (ndX z9 (35:Nat)))/\V (ndX z9 (36:Nat)));let z23:=(z0/\q8 z15);let z6:=(True/\(True/\∃ g_1:Unit,A ((fpC g).pre g_1)/\(A z17/\A z17/\A z17/\True)/\z4/\z23/\(z20/\A (false=false))/\(∀ (l:List Int),l.length=(8:Nat)->A (false=false)/\((false||false)=true->True))/\True)/\True);let z1:=(z25/\z6/\True);let z37:=(True/\z1/\True);True/\True/\True/\True/\((z4/\True)/\A (∀ i:Nat,i<g.n->(g.it i).nr<=(9223372036854775807:Nat)))/\True/\True/\True/\Br (decide (chkL g≠z29)) (True/\True/\True/\True/\(True/\A ((piP g).n=z21))/\A z8/\A (chkL g=piE g)) ((NewsOK Go.Proofs.Tryz.prog bU1/\(z24/\(True/\(z25/\(True/\z6/\True)/\True)/\z37/\True)/\(True/\z37/\True)/\True)/\(True/\(z24/\(z25/\(True/\z6/\True)/\True)/\z37/\True)/\(True/\(z24/\z1/\True)/\True)/\True)/\(True/\(z24/\z37/\True)/\(True/\(z24/\z1/\True)/\True)/\True)/\True)/\∀ g_1:Unit,(fpC g).pre g_1->True/\True/\A (z27<=z26*g.h/\z26*g.h<=z28)/\True/\(∃ g_2:Nat,let z11:=(ofR (pgV g) z38 g_2); A ((fpI g).pre g_2)/\(A z17/\A z17/\A z17/\z39/\(A z8/\A (z29=(↑g_2:Int)))/\True)/\z4/\z23/\(z20/\A (false=z11.full))/\(∀ (l:List Int),l.length=(8:Nat)->A (false=z11.has l)/\((z11.has l||false)=true->False))/\(A (z21=z11.n)/\(∀ i:Nat,i<z11.n->A (z21=z11.m i)/\∀ (i':Nat),i'<z11.m i->(((True/\False)/\False)/\False))/\∀ i:Nat,i<z11.n->True)/\(A (z21=z11.n)/\∀ i:Nat,i<z11.n->((((((((True/\False)/\False)/\False)/\False)/\False)/\False)/\False)/\False))/\True)/\∀ g_2:Nat,let z16:=(↑g_2:Int);let z2:=(ofR (pgV g) z38 g_2);let z22:=(Gar.Gt.P z2);let z19:=(∀ (l:List Int),l.length=(8:Nat)->A (z2.has l=z2.has l)/\((z2.has l||false)=true->q8 (z2.val l)));let z13:=(A (z2.n=z2.n)/\(∀ i:Nat,i<z2.n->A (z2.m i=z2.m i)/\∀ (i':Nat),let z40:=(z2.p i i'); i'<z2.m i->(((True/\q8 z40.y)/\q8 z40.x0)/\q8 z40.x1))/\∀ i:Nat,i<z2.n->True);let z10:=(A (z2.n=z2.n)/\∀ i:Nat,i<z2.n->(chp True (fun j:Nat=>q7 (z2.ink i j)) 8));let z3:=(rowA z2 z16 z18.toNat fun (i:Nat)=>am4 z12 z15.toNat (z29+(↑i:Int)) z16); (fpI g).pre g_2->True/\Br (decide (z16<z26*g.h)) (True/\True/\True/\True/\True/\True/\True/\True/\A (z27<=z26*g.w/\z26*g.w<=z28)/\(((z0/\A z8/\A (z15=(↑z15.toNat:Int)))/\(q8 z16)/\(q8 z29)/\(A z8/\A (z26*g.w=z29+(↑z18.toNat:Int)))/\True)/\A (∃ d:Nat,RoOK d (Lrw.RoG.mk (ndX z9) z12 z15.toNat z16 z29 z18.toNat)))/\((True/\(A z17/\(q8 z16)/\(A (z18.toNat=z18.toNat)/\∀ i:Nat,let z14:=(z29+(↑i:Int)); i<z18.toNat->(chp True (fun j:Nat=>q7 (am4 z12 z15.toNat z14 z16 j)) 8))/\True)/\(z20/\A (z2.full=z2.full))/\z19/\z13/\z10/\True)/\A (∃ B:Nat,Gok B z2/\B+z18.toNat<=(4294967295:Nat)))/\A (z27<=z16+(1:Int)/\z16+(1:Int)<=z28)/\True/\∃ (g':Nat),let z5:=(ofR (pgV g) z38 g'); A ((fpI g).pre g')/\((A z17/\A z17/\A z17/\z39/\(A z8/\A (z16+(1:Int)=(↑g':Int)))/\True)/\z4/\z23/\(z20/\A (z3.full=z5.full))/\(∀ (l:List Int),l.length=(8:Nat)->A (z3.has l=z5.has l)/\((z5.has l||false)=true->A z8/\A (z3.val l=z5.val l)))/\(A (z3.n=z5.n)/\(∀ i:Nat,i<z5.n->A (z3.m i=z5.m i)/\∀ (i':Nat),i'<z5.m i->(((True/\A z8/\A ((z3.p i i').y=(z5.p i i').y))/\A z8/\A ((z3.p i i').x0=(z5.p i i').x0))/\A z8/\A ((z3.p i i').x1=(z5.p i i').x1)))/\∀ i:Nat,i<z5.n->True)/\(A (z3.n=z5.n)/\∀ i:Nat,i<z5.n->((((((((True/\A z7/\A (z3.ink i z21=z5.ink i z21))/\A z7/\A (z3.ink i z30=z5.ink i z30))/\A z7/\A (z3.ink i z31=z5.ink i z31))/\A z7/\A (z3.ink i z32=z5.ink i z32))/\A z7/\A (z3.ink i z33=z5.ink i z33))/\A z7/\A (z3.ink i z34=z5.ink i z34))/\A z7/\A (z3.ink i z35=z5.ink i z35))/\A z7/\A (z3.ink i z36=z5.ink i z36)))/\True)/\A ((fpI g).meas g'<(fpI g).meas g_2)) (True/\((True/\(A z17/\True)/\(z20/\A (z2.full=z2.full))/\z19/\z13/\z10/\True)/\A (z2.n<=(4096:Nat)))/\True/\True/\True/\True/\True/\(True/\A ((bif z2.full then z21 else z2.n)=(piP g).n)/\∀ i:Nat,i<(piP g).n->(((((((((True/\A (z22.m i=(piP g).m i)/\∀ i_1:Nat,i_1<(piP g).m i->(((True/\A z8/\A ((z2.p i i_1).y=((piP g).p i i_1).y))/\A z8/\A ((z2.p i i_1).x0=((piP g).p i i_1).x0))/\A z8/\A ((z2.p i i_1).x1=((piP g).p i i_1).x1)))/\A z7/\A (z22.ink i z21=(piP g).ink i z21))/\A z7/\A (z22.ink i z30=(piP g).ink i z30))/\A z7/\A (z22.ink i z31=(piP g).ink i z31))/\A z7/\A (z22.ink i z32=(piP g).ink i z32))/\A z7/\A (z22.ink i z33=(piP g).ink i z33))/\A z7/\A (z22.ink i z34=(piP g).ink i z34))/\A z7/\A (z22.ink i z35=(piP g).ink i z35))/\A z7/\A (z22.ink i z36=(piP g).ink i z36)))/\A z8/\A ((bif z2.full then (2:Int) else z29)=piE g)))) (by kernel_rfl) ?_;simp only [chp];delta qG qI qM qS qT
 simp only [cln];have hs:∀ nd j,SVle [] [] (ndX nd j) (ndX nd j)=True:=fun nd j=>uF (SVle.refl [] [] (an3 nd j))
 simp only [hs,aq2,lw,ud,xC,xD,xA];have bad:chkL g≠0->(piP g).n=0/\chkL g=piE g:=fun h=>by
  rw [bR1,bu9];exact ⟨by unfold piB; rw [lb h],by unfold piC; rw [lb h]⟩
 refine ⟨hL.nr,bad,fun h=>?_⟩;have h0:chkL g=0:=xc.1 h;have hc:=az4 h0;have hw:=hc.w;have hh:=hc.h;have hg:=bN8 hc hL;have hns:(16*g.w-0).toNat=16*g.w.toNat:=by omega
 refine ⟨⟨b32,bH2 hc,(),h0⟩,fun _ _=>⟨⟨by omega,by omega⟩,⟨0,⟨h0,lm _⟩,rfl,rfl,fun l _=>⟨rfl,fun h=>by cases h⟩,⟨rfl,fun i hi=>absurd hi (lj _)⟩,rfl,fun i hi=>absurd hi (lj _)⟩,fun y hy=>⟨fun hlt=>?_,fun hge=>?_⟩⟩⟩
 ·have hB:Gok (y*(16*g.w.toNat)) (ofR (pgV g) (16*g.w.toNat) y):=bw7 (pgV g) (16*g.w.toNat) y;have hy1:y+1<=4096:=by omega
  have hW1:16*g.w.toNat<=4096:=by omega
  have hm:y*(16*g.w.toNat)<=4096*4096:=ui (by omega) hW1;have hr:rowA (ofR (pgV g) (16*g.w.toNat) y) y (16*g.w.toNat) (fun i=>am4 (ndP g) g.ni (0+(i:Int)) y)=ofR (pgV g) (16*g.w.toNat) (y+1):=by
   show _=rowA (ofR (pgV g) (16*g.w.toNat) y) y (16*g.w.toNat) (fun x=>pgV g (y*(16*g.w.toNat)+x));refine aO8 (fun k hk=>?_) _;have e1:(y*(16*g.w.toNat)+k) % (16*g.w.toNat)=k:=by rw [Nat.add_comm,uC,Nat.mod_eq_of_lt hk]
   have e2:(y*(16*g.w.toNat)+k) / (16*g.w.toNat)=y:=by rw [Nat.add_comm,Nat.add_mul_div_right _ _ (by omega),Nat.div_eq_of_lt hk,lu]
   unfold pgV;rw [e1,e2,Int.zero_add]
  rw [hns,hr];refine ⟨⟨by omega,by omega⟩,⟨by omega,_,rfl,hg.isg,hg.n,hg.kid,hc.ni.1,hc.ni.2,by simp only; omega,by simp only; omega,by simp only; omega,by simp only; omega⟩,⟨_,hB,by omega⟩,⟨by omega,by omega⟩,y+1,⟨h0,by omega⟩,⟨by simp,bt7 _⟩,by show 16*g.h.toNat-(y+1)<16*g.h.toNat-y; omega⟩
 ·have hy2:=hy.2;have e:ofR (pgV g) (16*g.w.toNat) y=ofA (piO g):=by
   rw [Gar.of_eq,show y=16*g.h.toNat by omega];rfl
  have hB:Gok (y*(16*g.w.toNat)) (ofR (pgV g) (16*g.w.toNat) y):=bw7 (pgV g) (16*g.w.toNat) y;have eP:piP g=Gar.Gt.P (ofA (piO g)):=by rw [bR1]; exact lg h0
  have eE:piE g=(bif (ofA (piO g)).full then 2 else 0):=by rw [bu9]; exact lg h0
  rw [e] at hB;rw [e,eP,eE];refine ⟨hB.n,⟨rfl,fun i hi=>?_⟩,rfl⟩;repeat' (first | rfl | trivial | apply And.intro | intro _)
end Fpc
set_option linter.unusedSimpArgs false
set_option linter.unusedVariables false
namespace Lsh
open Rgd Rgn
open Go.RowKit Sx Num Aff Afi Img Imh Imp Imq Rga Blend Ble Lsg Lta Lrd Lri Luc Lck Lgr Lcs Lst Lch Lcl Lgp Lsc Cmp Lpm Lpa Lpr Lbt Lpn Lpc Lpd Lpe Lpf Lrw Lto Lat Lun
set_option maxRecDepth 100000
structure WhG where
 w:Nat
 h:Nat
def pgF (w:Nat) (k:Nat):Rn:=⟨k,0,16*w⟩
def bK7:FSpec:=aa3 29 (γ:=WhG) (fun | [.int _ w,.int _ h]=>some ⟨w.toNat,h.toNat⟩ | _=>none) (fun g=>[.int .i64 g.w,.int .i64 g.h]) (fun g=>(1<=g.w/\g.w<=2)/\1<=g.h/\g.h<=2) (fun g=>rgS ⟨16*g.h,pgF g.w⟩)
theorem bS3:aa2 Tryz.prog bK7:=by
 refine ssW (specs:=[bK5]) (⟨bS1,trivial⟩) Tryz.func29 (fun g=>A0) ?_;rintro ⟨w,h⟩ ⟨⟨w1,w2⟩,h1,h2⟩;refine ab2 (B:=let A:=Sx.Ask;let z2:=(16:Int);let z1:=(IntKind.i64=IntKind.i64);let q1:=fun p:Int=>A z1/\A (p=p);let z4:=(q1 ((0:Int)));let z0:=(ReG.mk (0:Int) (0:Int) (z2*(↑w:Int)) (z2*(↑h:Int)));True/\True/\A ((-9223372036854775808:Int)<=z2*(↑w:Int)/\z2*(↑w:Int)<=(9223372036854775807:Int))/\True/\A ((-9223372036854775808:Int)<=z2*(↑h:Int)/\z2*(↑h:Int)<=(9223372036854775807:Int))/\((z4/\z4/\(q1 (z2*(↑w:Int)))/\(q1 (z2*(↑h:Int)))/\True)/\A z0.ok)/\True/\True/\True/\True/\True/\True/\True/\True/\A ((Lf z0.f z0.n).length=(16:Nat)*h)/\∀ i:Nat,let z3:=(Rga.rI (Lf z0.f z0.n) i); i<(16:Nat)*h->((True/\A z1/\A (z3.y=(↑i:Int)))/\A z1/\A (z3.x0=(0:Int)))/\A z1/\A (z3.x1=z2*(↑w:Int))) (by kernel_rfl) ?_;simp only [cln];have w1:1<=w:=w1;have w2:w<=2:=w2;have h1:1<=h:=h1;have h2:h<=2:=h2;have en:ReG.n ⟨0,0,16*w,16*h⟩=16*h:=by unfold ReG.n; simp only; omega
 rw [en];refine ⟨by omega,by omega,⟨by simp only; omega,by simp only; omega,by simp only; omega,by simp only; omega,by simp only; omega,by simp only; omega⟩,aE4 _ _,fun i hi=>?_⟩;rw [aR8 _ hi];exact ⟨⟨Int.zero_add _,rfl⟩,rfl⟩
structure PlnG where
 w:Nat
 h:Nat
 v:Ink
def plN (i:Nat):ByteArray:=⟨#[UInt8.ofNat (97+i)]⟩
def plI (g:PlnG):It:={ zIt with nr:=16*g.h,runs:=pgF g.w,src:={ zSrc with ink:=g.v },alpha:=255 }
def plL (g:PlnG):LsG:=⟨g.w,g.h,8,plN,1,fun _=>plI g⟩
def bZ3:FSpec:=aa3 14 (γ:=PlnG) (fun | [.int _ w,.int _ h,.agg _ v]=>some ⟨w.toNat,h.toNat,inkD v⟩ | _=>none) (fun g=>[.int .i64 g.w,.int .i64 g.h,.agg 8 (lst (inkL g.v))]) (fun g=>(1<=g.w/\g.w<=2)/\1<=g.h/\g.h<=2) (fun g=>lsS (plL g))
theorem b22:aa2 Tryz.prog bZ3:=by
 refine ssW (specs:=[bK7]) (⟨bS3,trivial⟩) Tryz.func14 (fun g=>A0) ?_;rintro ⟨w,h,v⟩ ⟨⟨w1,w2⟩,h1,h2⟩;refine ab2 (B:=let A:=Sx.Ask;let z5:=(↑h:Int);let z4:=((0:Nat)=(0:Nat));let z3:=(↑w:Int);let z2:=(false=false);let z1:=((0:Int)=(0:Int));let z0:=(IntKind.i64=IntKind.i64);let q0:=fun p:Int=>A z0/\A (p=p);True/\True/\True/\True/\True/\True/\True/\(((A z0/\A (z3=(↑z3.toNat:Int)))/\(A z0/\A (z5=(↑z5.toNat:Int)))/\True)/\A (((1:Nat)<=z3.toNat/\z3.toNat<=(2:Nat))/\(1:Nat)<=z5.toNat/\z5.toNat<=(2:Nat)))/\True/\True/\True/\True/\True/\True/\(True/\True)/\(((True/\q0 z3)/\q0 z5)/\A ((8:Nat)=(8:Nat))/\∀ i:Nat,i<(8:Nat)->True/\A ((bif decide (i=(7:Nat)) then ByteArray.mk #[(104:UInt8)] else bif decide (i=(6:Nat)) then ByteArray.mk #[(103:UInt8)] else bif decide (i=(5:Nat)) then ByteArray.mk #[(102:UInt8)] else bif decide (i=(4:Nat)) then ByteArray.mk #[(101:UInt8)] else bif decide (i=(3:Nat)) then ByteArray.mk #[(100:UInt8)] else bif decide (i=(2:Nat)) then ByteArray.mk #[(99:UInt8)] else bif decide (i=(1:Nat)) then ByteArray.mk #[(98:UInt8)] else ByteArray.mk #[(97:UInt8)])=(plL (PlnG.mk w h v)).nm i))/\A ((1:Nat)=(1:Nat))/\∀ i:Nat,i<(1:Nat)->((((((((((((((((((((((((qI (((True/\A z0/\A z1)/\A ((16:Nat)*z5.toNat=(16:Nat)*h)/\∀ i:Nat,i<(16:Nat)*h->(((True/\q0 ((↑i:Int)))/\A z0/\A z1)/\A z0/\A ((16:Int)*(↑z3.toNat:Int)=(16:Int)*z3)))/\A z0/\A z1) v v)/\A z0/\A z1)/\A z0/\A z1)/\A z0/\A z1)/\A z0/\A z1)/\A z0/\A z1)/\A z4)/\A z0/\A z1)/\A z0/\A z1)/\A z4)/\A z4)/\A z0/\A z1)/\A z0/\A z1)/\A z0/\A z1)/\A z0/\A z1)/\A z0/\A z1)/\A z0/\A z1)/\A z2)/\A z2)/\A (IntKind.u8=IntKind.u8)/\A ((255:Int)=(255:Int)))/\A z0/\A z1)/\A z2)/\A z2)/\A z2)) (by kernel_rfl) ?_;delta qI
 simp only [cln];have w1:1<=w:=w1;have w2:w<=2:=w2;have h1:1<=h:=h1;have h2:h<=2:=h2;exact ⟨⟨⟨by omega,by omega⟩,by omega,by omega⟩,lt8 rfl rfl rfl rfl rfl rfl rfl rfl,fun _ _=>⟨by omega,fun _ _=>by omega⟩⟩
theorem pl_u8 {g:PlnG}(hv:u8i g.v) (hh:g.h<=2):LsU8 (plL g):=⟨fun _ _=>show 0<=(255:Int)/\(255:Int)<=255 from ⟨by decide,by decide⟩,fun _ _=>hv,fun _ _ j hj=>absurd hj (lj j),fun _ _ j hj=>absurd hj (lj j),fun _ _ j hj=>absurd hj (lj j),fun _ _=>show 16*g.h<=9223372036854775807 by omega⟩
def af9 (L:LsG):LsG:={ L with w:=cutI L.w 1 2,h:=cutI L.h 1 2,n:=if 12<L.n then 12 else L.n }
def bK1:FSpec:=aa3 6 (γ:=LsG) (fun | [.agg _ g]=>some (lsD g) | _=>none) (fun g=>[lsS g]) (fun _=>True) (fun g=>lsS (af9 g))
theorem bR6:aa2 Tryz.prog bK1:=by
 refine ssW (specs:=[b01]) (⟨b37,trivial⟩) Tryz.func6 (fun g=>A0) ?_;rintro L _;refine ab2 (B:=let K:=Int.ofNat;let A:=Sx.Ask;let z5:=(2:Int);let z4:=(1:Int);let z3:=(12:Nat);let z2:=(((-2305843009213693952:Int)<=z4/\z4<=z5)/\z5<=(4611686018427387903:Int)/\z5-z4<=(4611686018427387903:Int));let z1:=(IntKind.i64=IntKind.i64);let q1:=fun p:Int=>A z1/\A (p=p);let z0:=(((True/\q1 (cutI L.w z4 z5))/\q1 (cutI L.h z4 z5))/\A (L.ni=L.ni)/\∀ i:Nat,i<L.ni->True/\A (L.nm i=(af9 L).nm i));True/\True/\True/\True/\(((q1 L.w)/\(q1 z4)/\(q1 z5)/\True)/\A z2)/\True/\True/\(((q1 L.h)/\(q1 z4)/\(q1 z5)/\True)/\A z2)/\True/\True/\True/\True/\True/\True/\True/\True/\Br (decide ((12:Int)<(↑L.n:Int))) (True/\True/\A ((0:Int)<=K (0:Nat)/\K (0:Nat)<=K z3/\K z3<=K L.n/\K L.n<=(↑L.n:Int))/\True/\True/\True/\True/\(True/\True)/\z0/\A ((K z3-K (0:Nat)).toNat=if z3<L.n then z3 else L.n)/\∀ i:Nat,(i<if z3<L.n then z3 else L.n)->(qT True (L.it ((K (0:Nat)).toNat+i)) ((af9 L).it i))) (True/\True/\(True/\True)/\z0/\A (L.n=if z3<L.n then z3 else L.n)/\∀ i:Nat,(i<if z3<L.n then z3 else L.n)->(qT True (L.it i) ((af9 L).it i)))) (by kernel_rfl) ?_;delta qG qI qM qS qT
 simp only [cln];refine ⟨⟨⟨by decide,by decide⟩,by decide,by decide⟩,⟨⟨by decide,by decide⟩,by decide,by decide⟩,fun h=>?_,fun h=>?_⟩
 ·have h:12<L.n:=by omega
  refine ⟨⟨by decide,by decide,by simp only [Int.ofNat_eq_natCast]; omega,by simp⟩,fun _ _=>rfl,by rw [lg h]; rfl,fun i hi=>?_⟩;have e:L.it ((Int.ofNat 0).toNat+i)=(af9 L).it i:=by show L.it (0+i)=L.it i; rw [lu]
  rw [e];repeat' first | exact rfl | apply And.intro | intro _
 ·have h:¬ 12<L.n:=by omega
  refine ⟨fun _ _=>rfl,by rw [lb h],fun i hi=>?_⟩;repeat' first | exact rfl | apply And.intro | intro _
end Lsh
end Go.Proofs.YthappngbapbkfaaGreat
