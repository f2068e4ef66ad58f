import Derived.Test.YtbkgncikjhibiaaGreatM6
set_option maxRecDepth 100000
set_option linter.unusedSimpArgs false
set_option linter.unusedVariables false
set_option linter.unusedSectionVars false
/- Part 7 of the texts that the law's proof leans on. -/
namespace Go.Proofs.YtbkgncikjhibiaaGreat
namespace Gar
open Go.RowKit Sx Num Aff Con Rga Gat
abbrev Vec:=Nat->Int
def brkG (f:Nat->Vec) (len x:Nat):Nat->Nat->Nat
 | 0,to=>to
 | n+1,to=>if to<len/\kOf (f to)=kOf (f x) then brkG f len x n (to+1) else to
def brk (f:Nat->Vec) (len x:Nat):Nat:=brkG f len x (len-(x+1)) (x+1)
theorem bN1 (f:Nat->Vec) (len x:Nat):∀ n to,to<=len->to<=brkG f len x n to/\brkG f len x n to<=len
 | 0,to,h=>⟨lf _,h⟩
 | n+1,to,h=>by
  unfold brkG;split
  ·rename_i hc;have:=bN1 f len x n (to+1) hc.1
   exact ⟨by omega,this.2⟩
  ·exact ⟨lf _,h⟩
theorem bg7 (f:Nat->Vec) (len x:Nat):∀ n to,∀ k,to<=k->k<brkG f len x n to->kOf (f k)=kOf (f x)
 | 0,to,k,h1,h2=>by simp only [brkG] at h2; omega
 | n+1,to,k,h1,h2=>by
  unfold brkG at h2;split at h2
  ·rename_i hc;by_cases hk:k=to
   ·subst hk; exact hc.2
   ·exact bg7 f len x n (to+1) k (by omega) h2
  ·omega
theorem bs6 (f:Nat->Vec) (len x:Nat):∀ n to,len<=to+n->to<=len->brkG f len x n to<len->kOf (f (brkG f len x n to))≠kOf (f x)
 | 0,to,h,h2,h3=>by simp only [brkG] at h3; omega
 | n+1,to,h,h2,h3=>by
  unfold brkG at h3 ⊢;split at h3
  ·rename_i hc;rw [lm hc];exact bs6 f len x n (to+1) (by omega) hc.1 h3
  ·rename_i hc;rw [lr hc];exact fun he=>hc ⟨h3,he⟩
theorem bs5 {f:Nat->Vec}{len x:Nat}(h:x<len):(x<brk f len x/\brk f len x<=len)/\(∀ k,x<=k->k<brk f len x->kOf (f k)=kOf (f x))/\(brk f len x<len->kOf (f (brk f len x))≠kOf (f x)):=by
 have h1:=bN1 f len x (len-(x+1)) (x+1) h;refine ⟨⟨by unfold brk; omega,h1.2⟩,fun k hk hb=>?_,fun hb=>bs6 f len x _ _ (by omega) h hb⟩;by_cases hkx:k=x
 ·rw [hkx]
 ·exact bg7 f len x _ _ k (by omega) hb
noncomputable def rowG (f:Nat->Vec) (y:Int) (len:Nat):Nat->Nat->Gt->Gt
 | 0,_,G=>G
 | n+1,x,G=>if x<len then rowG f y len n (brk f len x) (nxt G (f x) ⟨y,x,brk f len x⟩) else G
theorem bb6 (f:Nat->Vec) (y:Int) (len:Nat):∀ n m x G,len<=x+n->len<=x+m->rowG f y len n x G=rowG f y len m x G
 | 0,0,_,_,_,_=>rfl
 | 0,m+1,x,G,h,_=>by unfold rowG; rw [lr (by omega)]
 | n+1,0,x,G,_,h=>by unfold rowG; rw [lr (by omega)]
 | n+1,m+1,x,G,h1,h2=>by
  unfold rowG;by_cases hx:x<len
  ·rw [lm hx,lm hx];have:=(bs5 (f:=f) hx).1
   exact bb6 f y len n m _ _ (by omega) (by omega)
  ·rw [lr hx,lr hx]
theorem aN0 (f:Nat->Vec) (y:Int) (len n x:Nat) (G:Gt):rowG f y len (n+1) x G=if x<len then rowG f y len n (brk f len x) (nxt G (f x) ⟨y,x,brk f len x⟩) else G:=rfl
noncomputable def rowB (G:Gt) (y:Int) (len:Nat) (f:Nat->Vec):Gt:=rowG f y len len 0 G
theorem bY4:∃ f,f=rowB:=⟨_,rfl⟩
noncomputable def rowA:Gt->Int->Nat->(Nat->Vec)->Gt:=Classical.choose bY4
theorem bF6:rowA=rowB:=Classical.choose_spec bY4
theorem aD0 (L:List Rn) (r:Rn):(addR L r).length<=L.length+1:=by
 unfold addR;split
 ·split
  ·split
   ·rename_i h1 _; have:=xK (xs:=L); simp only [lx,this,xG]; omega
   ·simp
  ·simp
 ·omega
theorem bZ8 {B:Nat}{G:Gt}(h:Gok B G) (v:Vec) (r:Rn):Gok (B+1) (nxt G v r):=by
 rw [bI3];have up:Gok (B+1) G:=⟨h.n,fun k=>xX (h.m k),h.val⟩
 have put:∀ {G:Gt}{k:Nat}{L:List Rn},Gok (B+1) G->L.length<=B+1->Gok (B+1) (putP G k L):=fun {G k L} h hl=>by
  refine ⟨h.n,fun j=>?_,h.val⟩;show updN G.m k L.length j<=_;unfold updN;cases decide (j=k)
  ·exact h.m j
  ·exact hl
 have glen:∀ (G:Gt) (k:Nat),(grw G k r).length<=G.m k+1:=fun G k=>by
  have:=aD0 (Rg.L ⟨G.m k,G.p k⟩) r
  rwa [Rg.len] at this
 unfold nxtB;split
 ·exact up
 ·split
  ·exact put up (lW (glen _ _) (by have:=h.m (G.val (kOf v)).toNat; omega))
  ·split
   ·exact ⟨up.n,up.m,up.val⟩
   ·rename_i hh hn;have hn':=h.n;refine put ⟨by show G.n+1<=4096; omega,fun k=>?_,fun l hl=>?_⟩ (lW (glen _ _) ?_)
    ·show updN G.m G.n 0 k<=_;unfold updN;cases decide (k=G.n)
     ·exact xX (h.m k)
     ·exact lC _
    ·show 0<=(bif decide (l=kOf v) then (G.n:Int) else G.val l)/\(bif decide (l=kOf v) then (G.n:Int) else G.val l)<((G.n+1:Nat):Int);have hl:(decide (l=kOf v)||G.has l)=true:=hl;cases hd:decide (l=kOf v) with
     | true=>simp only [un]; omega
     | false=>
      rw [hd,lai] at hl;have:=h.val l hl
      simp only [cond_false];omega
    ·show updN G.m G.n 0 G.n+1<=B+1;rw [ah5];omega
theorem same8 (v u:Vec):(decide (v 0=u 0)&&(decide (v 1=u 1)&&(decide (v 2=u 2)&&(decide (v 3=u 3)&&(decide (v 4=u 4)&&(decide (v 5=u 5)&&(decide (v 6=u 6)&&(decide (v 7=u 7)&&true))))))))=decide (kOf v=kOf u):=by
 rw [uS];simp [kOf]
theorem aP1 {B C:Nat}{G:Gt}(h:Gok B G) (hc:B<=C):Gok C G:=⟨h.n,fun k=>lW (h.m k) hc,h.val⟩
theorem bF4 (G:Gt):G.full=G.full/\(∀ (l:List Int),l.length=8->G.has l=G.has l/\(G.has l=true->G.val l=G.val l))/\(G.n=G.n/\∀ (i:Nat),i<G.n->G.m i=G.m i/\∀ (i':Nat),i'<G.m i->((G.p i i').y=(G.p i i').y/\(G.p i i').x0=(G.p i i').x0)/\(G.p i i').x1=(G.p i i').x1)/\
  G.n=G.n/\∀ (i:Nat),i<G.n->((((((G.ink i 0=G.ink i 0/\G.ink i 1=G.ink i 1)/\G.ink i 2=G.ink i 2)/\G.ink i 3=G.ink i 3)/\G.ink i 4=G.ink i 4)/\G.ink i 5=G.ink i 5)/\G.ink i 6=G.ink i 6)/\G.ink i 7=G.ink i 7:=
 ⟨rfl,fun l _=>⟨rfl,fun _=>rfl⟩,⟨rfl,fun i _=>⟨rfl,fun i' _=>⟨⟨rfl,rfl⟩,rfl⟩⟩⟩,rfl,fun i _=>⟨⟨⟨⟨⟨⟨⟨rfl,rfl⟩,rfl⟩,rfl⟩,rfl⟩,rfl⟩,rfl⟩,rfl⟩⟩
structure RoG where
 G:Gt
 y:Int
 n:Nat
 f:Nat->Vec
def a69 (n:Nat) (f:Nat->Vec):SV:= .sl n 8 (fun i j=> .int .u8 (f i j))
def bV2:SV->Nat->Vec
 | .sl _ _ g=>fun i j=>Sx.intOf (g i j)
 | _=>fun _ _=>0
def roD:List SV->List SO->Option RoG
 | [_,.int _ y,s],os=>match gtD os with
  | some G=>some ⟨G,y,aj5 s,bV2 s⟩
  | none=>none
 | _,_=>none
structure RoS where
 x:Nat
 G:Gt
structure RoP (g:RoG) (B:Nat) (s:RoS):Prop where
 le:s.x<=g.n
 ok:Gok (B+s.x) s.G
 fin:rowG g.f g.y g.n (g.n-s.x) s.x s.G=rowA g.G g.y g.n g.f
structure RoJ (g:RoG) (s:RoS) (to:Nat):Prop where
 lt:s.x<to
 le:to<=g.n
 fin:brkG g.f g.n s.x (g.n-to) to=brk g.f g.n s.x
def roI (g:RoG):Inv:=⟨RoS,fun s=>∃ B,RoP g B s/\B+g.n<=4294967295,fun s=>⟨[(0,.own 0 0),(1,.int .i64 g.y),(2,a69 g.n g.f),(6,.int .i64 s.x)],gaO s.G 1 1⟩,fun s=>g.n-s.x⟩
def roIJ (g:RoG) (s:RoS):Inv:=⟨Nat,fun to=>s.x<g.n/\RoJ g s to,fun to=>⟨[(0,.own 0 0),(1,.int .i64 g.y),(2,a69 g.n g.f),(6,.int .i64 s.x),(7,.int .i64 to)],gaO s.G 1 1⟩,fun to=>g.n-to⟩
noncomputable def al1:FSpec:=af2 23 [.arg 0,.cell 0 0,.cell 0 1,.cell 0 2] roD (fun g=>[.own 0 0,.int .i64 g.y,a69 g.n g.f])
 (fun g=>gaO g.G 0 0) (fun g=>∃ B,Gok B g.G/\B+g.n<=4294967295)
 (fun _=> .tup 0 (lst []))
 (fun g=>gaO (rowA g.G g.y g.n g.f) 1 1)
theorem cl1:aa7 Tw.prog al1:=by
 refine aw9 (specs:=[bX6]) (at7 ⟨b89,trivial⟩) (eqs:=eqI) (all_eq bs0) Aff.mixed Tw.func23 rfl (by kernel_rfl) (fun _ _=>by kernel_rfl) (fun g=>(⟨[(1,.nest (roI g) (fun s=>[(3,.inv (roIJ g s))]))],[]⟩:Ann)) false (fun g=>lN (by kernel_rfl)) ?_;rintro g ⟨B,hB,hle⟩;refine ad5 (B:=let T4:=fun p:Prop=>True/\True/\True/\True/\p;let A:=Aq;let z21:=(7:Nat);let z20:=(6:Nat);let z19:=(5:Nat);let z18:=(4:Nat);let z17:=(3:Nat);let z16:=(2:Nat);let z12:=(((True/\True)/\True)/\True);let z10:=(1:Nat);let z9:=(0:Nat);let z27:=(z9+(z9+z10+z10+z10+z10+z10));let z26:=(z9+(z9+z10+z10+z10+z10+z10+z10));let z25:=(z9+(z9+z10+z10+z10+z10+z10+z10+z10));let z8:=(rowA g.G g.y g.n g.f);let z5:=(IntKind.i64=IntKind.i64);let q5:=fun p:Int=>A z5/\A (p=p);let z14:=(q5 g.y);let z4:=(IntKind.u8=IntKind.u8);let q4:=fun p:Int=>A z4/\A (p=p);let z2:=(A (g.n=g.n)/\∀ i:Nat,i<g.n->(chp True (fun j:Nat=>q4 (g.f i j)) 7)/\q4 (g.f i z21));True/\(∃ g_1:RoS,A ((roI g).pre g_1)/\True/\(A (z9=z9)/\z14/\z2/\(A z5/\A ((0:Int)=(↑g_1.x:Int)))/\True)/\(z12/\A (g.G.full=g_1.G.full))/\(∀ (l:List Int),l.length=(8:Nat)->A (g.G.has l=g_1.G.has l)/\((g_1.G.has l||false)=true->A z5/\A (g.G.val l=g_1.G.val l)))/\(A (g.G.n=g_1.G.n)/\(∀ i:Nat,i<g_1.G.n->A (g.G.m i=g_1.G.m i)/\∀ (i':Nat),i'<g_1.G.m i->((True/\A z5/\A ((g.G.p i i').y=(g_1.G.p i i').y))/\A z5/\A ((g.G.p i i').x0=(g_1.G.p i i').x0))/\A z5/\A ((g.G.p i i').x1=(g_1.G.p i i').x1))/\∀ i:Nat,i<g_1.G.n->True)/\(A (g.G.n=g_1.G.n)/\∀ i:Nat,i<g_1.G.n->(((((((True/\A z4/\A (g.G.ink i z9=g_1.G.ink i z9))/\A z4/\A (g.G.ink i z10=g_1.G.ink i z10))/\A z4/\A (g.G.ink i z16=g_1.G.ink i z16))/\A z4/\A (g.G.ink i z17=g_1.G.ink i z17))/\A z4/\A (g.G.ink i z18=g_1.G.ink i z18))/\A z4/\A (g.G.ink i z19=g_1.G.ink i z19))/\A z4/\A (g.G.ink i z20=g_1.G.ink i z20))/\A z4/\A (g.G.ink i z21=g_1.G.ink i z21))/\True)/\∀ g_1:RoS,let z28:=(roIJ g g_1);let z15:=(z12/\A (g_1.G.full=g_1.G.full));let z11:=(∀ (l:List Int),l.length=(8:Nat)->A (g_1.G.has l=g_1.G.has l)/\((g_1.G.has l||false)=true->q5 (g_1.G.val l)));let z7:=(↑g_1.x:Int);let z23:=(q5 z7);let z22:=((0:Int)<=z7/\z7<(↑g.n:Int));let z6:=(A (g_1.G.n=g_1.G.n)/\(∀ i:Nat,i<g_1.G.n->A (g_1.G.m i=g_1.G.m i)/\∀ (i':Nat),let z24:=(g_1.G.p i i'); i'<g_1.G.m i->((True/\q5 z24.y)/\q5 z24.x0)/\q5 z24.x1)/\∀ i:Nat,i<g_1.G.n->True);let z3:=(A (g_1.G.n=g_1.G.n)/\∀ i:Nat,i<g_1.G.n->(chp True (fun j:Nat=>q4 (g_1.G.ink i j)) 7)/\q4 (g_1.G.ink i z21)); (roI g).pre g_1->T4 (Br (decide (z7<(↑g.n:Int))) (True/\A ((-9223372036854775808:Int)<=z7+(1:Int)/\z7+(1:Int)<=(9223372036854775807:Int))/\True/\(∃ g_2:Nat,A (z28.pre g_2)/\True/\(A (z9=z9)/\z14/\z2/\z23/\(A z5/\A (z7+(1:Int)=(↑g_2:Int)))/\True)/\z15/\z11/\z6/\z3/\True)/\∀ g_2:Nat,let z13:=(↑g_2:Int);let z1:=((True/\(A (z9=z9)/\(chp True (fun j:Nat=>q4 (g.f z7.toNat (z9+j))) 8)/\z14/\z23/\(q5 z13)/\True)/\z15/\z11/\z6/\z3/\True)/\A (Gok (4294967295:Nat) g_1.G));let z0:=(Gat.nxt g_1.G (fun (j:Nat)=>g.f z7.toNat (z9+j)) (Rn.mk g.y z7 z13)); z28.pre g_2->T4 (True/\Br (decide (z13<(↑g.n:Int))) (True/\True/\A ((0:Int)<=z13/\z13<(↑g.n:Int))/\True/\True/\True/\A z22/\True/\True/\True/\Br (decide (g.f z13.toNat (z9+z9)=g.f z7.toNat (z9+z9))&&(decide (g.f z13.toNat (z9+(z9+z10))=g.f z7.toNat (z9+(z9+z10)))&&(decide (g.f z13.toNat (z9+(z9+z10+z10))=g.f z7.toNat (z9+(z9+z10+z10)))&&(decide (g.f z13.toNat (z9+(z9+z10+z10+z10))=g.f z7.toNat (z9+(z9+z10+z10+z10)))&&(decide (g.f z13.toNat (z9+(z9+z10+z10+z10+z10))=g.f z7.toNat (z9+(z9+z10+z10+z10+z10)))&&(decide (g.f z13.toNat z27=g.f z7.toNat z27)&&(decide (g.f z13.toNat z26=g.f z7.toNat z26)&&(decide (g.f z13.toNat z25=g.f z7.toNat z25)&&true)))))))) (True/\A ((-9223372036854775808:Int)<=z13+(1:Int)/\z13+(1:Int)<=(9223372036854775807:Int))/\True/\∃ (g':Nat),A (z28.pre g')/\True/\((A (z9=z9)/\z14/\z2/\z23/\(A z5/\A (z13+(1:Int)=(↑g':Int)))/\True)/\z15/\z11/\z6/\z3/\True)/\A (z28.meas g'<z28.meas g_2)) (True/\True/\True/\A z22/\T4 (z1/\True/\True/\∃ (g':RoS),A ((roI g).pre g')/\True/\((A (z9=z9)/\z14/\z2/\(A z5/\A (z13=(↑g'.x:Int)))/\True)/\(z12/\A (z0.full=g'.G.full))/\(∀ (l:List Int),l.length=(8:Nat)->A (z0.has l=g'.G.has l)/\((g'.G.has l||false)=true->A z5/\A (z0.val l=g'.G.val l)))/\(A (z0.n=g'.G.n)/\(∀ i:Nat,i<g'.G.n->A (z0.m i=g'.G.m i)/\∀ (i':Nat),i'<g'.G.m i->((True/\A z5/\A ((z0.p i i').y=(g'.G.p i i').y))/\A z5/\A ((z0.p i i').x0=(g'.G.p i i').x0))/\A z5/\A ((z0.p i i').x1=(g'.G.p i i').x1))/\∀ i:Nat,i<g'.G.n->True)/\(A (z0.n=g'.G.n)/\∀ i:Nat,i<g'.G.n->(((((((True/\A z4/\A (z0.ink i z9=g'.G.ink i z9))/\A z4/\A (z0.ink i z10=g'.G.ink i z10))/\A z4/\A (z0.ink i z16=g'.G.ink i z16))/\A z4/\A (z0.ink i z17=g'.G.ink i z17))/\A z4/\A (z0.ink i z18=g'.G.ink i z18))/\A z4/\A (z0.ink i z19=g'.G.ink i z19))/\A z4/\A (z0.ink i z20=g'.G.ink i z20))/\A z4/\A (z0.ink i z21=g'.G.ink i z21))/\True)/\A ((roI g).meas g'<(roI g).meas g_1)))) (T4 (A z22/\T4 (z1/\True/\True/\∃ (g':RoS),A ((roI g).pre g')/\True/\((A (z9=z9)/\z14/\z2/\(A z5/\A (z13=(↑g'.x:Int)))/\True)/\(z12/\A (z0.full=g'.G.full))/\(∀ (l:List Int),l.length=(8:Nat)->A (z0.has l=g'.G.has l)/\((g'.G.has l||false)=true->A z5/\A (z0.val l=g'.G.val l)))/\(A (z0.n=g'.G.n)/\(∀ i:Nat,i<g'.G.n->A (z0.m i=g'.G.m i)/\∀ (i':Nat),i'<g'.G.m i->((True/\A z5/\A ((z0.p i i').y=(g'.G.p i i').y))/\A z5/\A ((z0.p i i').x0=(g'.G.p i i').x0))/\A z5/\A ((z0.p i i').x1=(g'.G.p i i').x1))/\∀ i:Nat,i<g'.G.n->True)/\(A (z0.n=g'.G.n)/\∀ i:Nat,i<g'.G.n->(((((((True/\A z4/\A (z0.ink i z9=g'.G.ink i z9))/\A z4/\A (z0.ink i z10=g'.G.ink i z10))/\A z4/\A (z0.ink i z16=g'.G.ink i z16))/\A z4/\A (z0.ink i z17=g'.G.ink i z17))/\A z4/\A (z0.ink i z18=g'.G.ink i z18))/\A z4/\A (z0.ink i z19=g'.G.ink i z19))/\A z4/\A (z0.ink i z20=g'.G.ink i z20))/\A z4/\A (z0.ink i z21=g'.G.ink i z21))/\True)/\A ((roI g).meas g'<(roI g).meas g_1)))))) (True/\True/\(True/\True)/\(z12/\A (g_1.G.full=z8.full))/\(∀ (l:List Int),l.length=(8:Nat)->A (g_1.G.has l=z8.has l)/\((z8.has l||false)=true->A z5/\A (g_1.G.val l=z8.val l)))/\(A (g_1.G.n=z8.n)/\(∀ i:Nat,i<z8.n->A (g_1.G.m i=z8.m i)/\∀ (i':Nat),i'<z8.m i->((True/\A z5/\A ((g_1.G.p i i').y=(z8.p i i').y))/\A z5/\A ((g_1.G.p i i').x0=(z8.p i i').x0))/\A z5/\A ((g_1.G.p i i').x1=(z8.p i i').x1))/\∀ i:Nat,i<z8.n->True)/\(A (g_1.G.n=z8.n)/\∀ i:Nat,i<z8.n->(((((((True/\A z4/\A (g_1.G.ink i z9=z8.ink i z9))/\A z4/\A (g_1.G.ink i z10=z8.ink i z10))/\A z4/\A (g_1.G.ink i z16=z8.ink i z16))/\A z4/\A (g_1.G.ink i z17=z8.ink i z17))/\A z4/\A (g_1.G.ink i z18=z8.ink i z18))/\A z4/\A (g_1.G.ink i z19=z8.ink i z19))/\A z4/\A (g_1.G.ink i z20=z8.ink i z20))/\A z4/\A (g_1.G.ink i z21=z8.ink i z21))/\True))) ?_;simp only [chp];simp only [cln,lF,lS];simp only [Nat.reduceAdd,same8,lL,xR];have step:∀ {s:RoS}{B:Nat}{to:Nat},RoP g B s->s.x<g.n->brk g.f g.n s.x=to->RoP g B ⟨to,nxt s.G (g.f s.x) ⟨g.y,s.x,to⟩⟩:=fun {s B to} P hx hto=>by
  have hb:=(bs5 (f:=g.f) hx).1;subst hto;refine ⟨hb.2,aP1 (bZ8 P.ok _ _) (by show B+s.x+1<=B+brk g.f g.n s.x; omega),?_⟩;rw [<-P.fin];obtain ⟨k,hk⟩:∃ k,g.n-s.x=k+1:=⟨g.n-s.x-1,by omega⟩
  rw [hk];rw [aN0,lm hx];exact bb6 g.f g.y g.n (g.n-brk g.f g.n s.x) k (brk g.f g.n s.x) _ (by omega) (by omega)
 have done:∀ {s:RoS}{to:Nat},RoJ g s to->(to<g.n->kOf (g.f to)≠kOf (g.f s.x))->brk g.f g.n s.x=to:=fun {s to} J h=>by
  rw [<-J.fin];cases hm:g.n-to with
  | zero=>rfl
  | succ m=>
   unfold brkG;rw [lr (fun hc=>h hc.1 hc.2)]
 have nextI:∀ {s:RoS}{to:Nat}(hs:∃ B,RoP g B s/\B+g.n<=4294967295),s.x<g.n->RoJ g s to->(to<g.n->kOf (g.f to)≠kOf (g.f s.x))->(roI g).pre ⟨to,nxt s.G (g.f s.x) ⟨g.y,s.x,to⟩⟩:=fun {s to} hs hx J h=>by
  obtain ⟨B,P,hB⟩:=hs;exact ⟨B,step P hx (done J h),hB⟩
 have gk:∀ {s:RoS},(∃ B,RoP g B s/\B+g.n<=4294967295)->Gok 4294967295 s.G:=fun {s} hs=>by
  obtain ⟨B,P,hB⟩:=hs;have:=P.le
  exact aP1 P.ok (by omega)
 refine ⟨⟨⟨0,g.G⟩,⟨B,⟨lC _,by rw [lU]; exact hB,?_⟩,hle⟩,rfl,bF4 _⟩,fun s hs=>⟨fun hx=>⟨by omega,⟨s.x+1,⟨by omega,by omega,by omega,?_⟩,by omega⟩,fun to hto=>?_⟩,fun hx=>?_⟩⟩
 ·show rowG g.f g.y g.n (g.n-0) 0 g.G=_;rw [bF6];rfl
 ·rfl
 ·obtain ⟨hx',J⟩:=hto;have hx:s.x<g.n:=hx';have J1:=J.lt;have J2:=J.le;have hm:∀ G',(roI g).meas ⟨to,G'⟩<(roI g).meas s:=fun G'=>by show g.n-to<g.n-s.x; omega
  refine ⟨fun hlt=>⟨by omega,by omega,fun he=>⟨by omega,to+1,⟨hx,by omega,by omega,?_⟩,by omega,by show g.n-(to+1)<g.n-to; omega⟩,fun he=>⟨by omega,gk hs,⟨to,nxt s.G (g.f s.x) ⟨g.y,s.x,to⟩⟩,nextI hs hx J (fun _=>he),⟨rfl,bF4 _⟩,hm _⟩⟩,fun hge=>⟨by omega,gk hs,⟨to,nxt s.G (g.f s.x) ⟨g.y,s.x,to⟩⟩,nextI hs hx J (fun h=>absurd h (by omega)),⟨rfl,bF4 _⟩,hm _⟩⟩;rw [<-J.fin];obtain ⟨k,hk⟩:∃ k,g.n-to=k+1:=⟨g.n-to-1,by omega⟩
  rw [hk,show g.n-(to+1)=k by omega];show _=brkG g.f g.n s.x (k+1) to;conv=>rhs; unfold brkG
  rw [lm ⟨by omega,he⟩]
 ·obtain ⟨B',P,hB'⟩:=hs;have h1:=P.le;have h2:s.x=g.n:=by omega
  have h3:=P.fin;rw [h2,uy] at h3;have h3:s.G=rowA g.G g.y g.n g.f:=h3;rw [<-h3];exact bF4 _
structure Pcs where
 n:Nat
 m:Nat->Nat
 p:Nat->Nat->Rn
 ink:Nat->Vec
def pcC (P:Pcs) (i j:Nat):SV:=match j with
 | 0=> .sl (P.m i) 3 (fun k=>lst (rnL (P.p i k)))
 | j+1=> .int .u8 (P.ink i j)
def pcS (P:Pcs):SV:= .sl P.n 9 (pcC P)
def pcD (s:SV):Pcs:=match s with
 | .sl n _ f=>⟨n,fun i=>aj5 (f i 0),fun i=>rgD (f i 0),fun i j=>Sx.intOf (f i (j+1))⟩
 | _=>⟨0,fun _=>0,fun _ _=>⟨0,0,0⟩,fun _ _=>0⟩
def Gt.P (G:Gt):Pcs:=⟨bif G.full then 0 else G.n,G.m,G.p,G.ink⟩
def pcA (G:Gt):SV:= .tup 2 (lst [pcS (Gt.P G),.int .i64 (bif G.full then 2 else 0)])
def piI (G:Gt):Inv:=⟨Nat,fun i=>G.full=false/\i<=G.n,fun i=>⟨[(0,.own 0 0),(4,.osl 4 0),(14,.osl 3 0),(15,.int .i64 G.n),(16,.int .i64 i)],
 [.cells 4 (lst [.omap 1,.osl 2 0,.osl 3 0,.bool G.full]) 75,.mpi (.arr 8 .u8) false G.has (fun l=> .int .i64 (G.val l)),
   .srow 0 G.n 1 (bg4 3 G.m (fun k i=>lst (rnL (G.p k i))) (fun _=>lst [])),.row 0 G.n 8 (fun i j=> .int .u8 (G.ink i j)) 26,
   .row 0 i 9 (pcC ⟨G.n,G.m,G.p,G.ink⟩) 39]⟩,fun i=>G.n-i⟩
def bo5:FSpec:=af2 24 [.arg 0,.cell 0 0,.cell 0 1,.cell 0 2] (fun l os=>gtD os) (fun _=>[.own 0 0])
 (fun G=>gaO G 0 0) (fun G=>G.n<=4096) (fun G=>pcA G)
 (fun _=>[.dead,.dead,.dead,.dead])
theorem bH4:aa7 Tw.prog bo5:=by
 refine smW (specs:=[]) trivial Tw.func24 (fun G=>(⟨[(5,.inv (piI G))],[(4,[.own 4 39 9,.give 2])]⟩:Ann)) false ?_;rintro G hG;refine ad5 (B:=let A:=Aq;let z12:=(9:Nat);let z9:=(↑G.n:Int);let z8:=((((True/\True)/\True)/\True)/\A (G.full=G.full));let z7:=(1:Nat);let z4:=(0:Nat);let z2:=(IntKind.i64=IntKind.i64);let q2:=fun p:Int=>A z2/\A (p=p);let z5:=(∀ (l:List Int),l.length=(8:Nat)->A (G.has l=G.has l)/\((G.has l||false)=true->q2 (G.val l)));let z3:=(A (G.n=G.n)/\∀ i:Nat,i<G.n->True/\A (G.m i=G.m i)/\∀ i_1:Nat,let z10:=(G.p i i_1); i_1<G.m i->((True/\q2 z10.y)/\q2 z10.x0)/\q2 z10.x1);let z1:=(IntKind.u8=IntKind.u8);let q1:=fun p:Int=>A z1/\A (p=p);let z0:=(A (G.n=G.n)/\∀ i:Nat,i<G.n->(chp True (fun j:Nat=>q1 (G.ink i j)) 7)/\q1 (G.ink i (7:Nat)));True/\True/\True/\True/\True/\True/\Br G.full (True/\True/\True/\True/\(((True/\A ((bif G.full then z4 else G.n)=z4))/\A z2/\A ((2:Int)=bif G.full then (2:Int) else (0:Int)))/\True)/\True/\True/\True/\True/\True) (True/\True/\True/\True/\True/\True/\True/\(∃ g:Nat,A ((piI G).pre g)/\True/\(A (z4=z4)/\True/\True/\(q2 z9)/\(A z2/\A ((0:Int)=(↑g:Int)))/\True)/\z8/\z5/\z3/\z0/\(A (z4=g)/\∀ i:Nat,i<g->((((((((True/\False)/\False)/\False)/\False)/\False)/\False)/\False)/\False)/\False)/\True)/\∀ g:Nat,let z6:=(↑g:Int); (piI G).pre g->True/\Br (decide (z6<z9)) (True/\A ((0:Int)<=z6/\z6<z9)/\A (z6.toNat<G.n)/\True/\True/\True/\True/\True/\True/\True/\True/\True/\A ((0:Int)<=z6/\z6<z9)/\True/\True/\True/\True/\True/\A (g+z7<=(9223372036854775807:Nat)/\(g+z7)*(32:Nat)<=(140737488355328:Nat))/\True/\A ((-9223372036854775808:Int)<=z6+(1:Int)/\z6+(1:Int)<=(9223372036854775807:Int))/\True/\∃ (g':Nat),A ((piI G).pre g')/\True/\((A (z4=z4)/\True/\True/\(q2 z9)/\(A z2/\A (z6+(1:Int)=(↑g':Int)))/\True)/\z8/\z5/\z3/\z0/\(A (g+z7=g')/\∀ i:Nat,i<g'->((((((((True/\A ((bif decide (i<g) then G.m i else G.m z6.toNat)=G.m i)/\∀ i_1:Nat,let z11:=(G.p i i_1); i_1<G.m i->((True/\A z2/\A ((bif decide (i<g) then z11.y else (G.p z6.toNat i_1).y)=z11.y))/\A z2/\A ((bif decide (i<g) then z11.x0 else (G.p z6.toNat i_1).x0)=z11.x0))/\A z2/\A ((bif decide (i<g) then z11.x1 else (G.p z6.toNat i_1).x1)=z11.x1))/\A z1/\A ((bif decide (i<g) then G.ink i z4 else G.ink z6.toNat (z4+(z4+(z7-z4*z12-z7))))=G.ink i z4))/\A z1/\A ((bif decide (i<g) then G.ink i z7 else G.ink z6.toNat (z4+(z4+((2:Nat)-z4*z12-z7))))=G.ink i z7))/\A z1/\A ((bif decide (i<g) then G.ink i (2:Nat) else G.ink z6.toNat (z4+(z4+((3:Nat)-z4*z12-z7))))=G.ink i (2:Nat)))/\A z1/\A ((bif decide (i<g) then G.ink i (3:Nat) else G.ink z6.toNat (z4+(z4+((4:Nat)-z4*z12-z7))))=G.ink i (3:Nat)))/\A z1/\A ((bif decide (i<g) then G.ink i (4:Nat) else G.ink z6.toNat (z4+(z4+((5:Nat)-z4*z12-z7))))=G.ink i (4:Nat)))/\A z1/\A ((bif decide (i<g) then G.ink i (5:Nat) else G.ink z6.toNat (z4+(z4+((6:Nat)-z4*z12-z7))))=G.ink i (5:Nat)))/\A z1/\A ((bif decide (i<g) then G.ink i (6:Nat) else G.ink z6.toNat (z4+(z4+((7:Nat)-z4*z12-z7))))=G.ink i (6:Nat)))/\A z1/\A ((bif decide (i<g) then G.ink i (7:Nat) else G.ink z6.toNat (z4+(z4+((8:Nat)-z4*z12-z7))))=G.ink i (7:Nat)))/\True)/\A ((piI G).meas g'<(piI G).meas g)) (True/\True/\True/\True/\True/\(((True/\A (g=bif G.full then z4 else G.n)/\∀ i:Nat,(i<bif G.full then z4 else G.n)->((((((((True/\A (G.m i=(Gt.P G).m i)/\∀ i_1:Nat,i_1<(Gt.P G).m i->((True/\A z2/\A ((G.p i i_1).y=((Gt.P G).p i i_1).y))/\A z2/\A ((G.p i i_1).x0=((Gt.P G).p i i_1).x0))/\A z2/\A ((G.p i i_1).x1=((Gt.P G).p i i_1).x1))/\A z1/\A (G.ink i z4=(Gt.P G).ink i z4))/\A z1/\A (G.ink i z7=(Gt.P G).ink i z7))/\A z1/\A (G.ink i (2:Nat)=(Gt.P G).ink i (2:Nat)))/\A z1/\A (G.ink i (3:Nat)=(Gt.P G).ink i (3:Nat)))/\A z1/\A (G.ink i (4:Nat)=(Gt.P G).ink i (4:Nat)))/\A z1/\A (G.ink i (5:Nat)=(Gt.P G).ink i (5:Nat)))/\A z1/\A (G.ink i (6:Nat)=(Gt.P G).ink i (6:Nat)))/\A z1/\A (G.ink i (7:Nat)=(Gt.P G).ink i (7:Nat)))/\A z2/\A ((0:Int)=bif G.full then (2:Int) else (0:Int)))/\True)/\True/\True/\True/\True/\True))) ?_;simp only [chp];simp only [cln,lF,lS];refine ⟨fun h=>by rw [h]; exact ⟨rfl,rfl⟩,fun h=>⟨⟨0,⟨h,lC _⟩,rfl,rfl,fun i hi=>absurd hi (ln _)⟩,fun k hk=>⟨fun hlt=>?_,fun hge=>?_⟩⟩⟩
 ·have hk1:=hk.1;refine ⟨by omega,by omega,by omega,by omega,by omega,k+1,⟨hk1,by omega⟩,⟨by omega,rfl,fun i hi=>?_⟩,by show G.n-(k+1)<G.n-k; omega⟩;by_cases hik:i<k
  ·simp only [lj hik,un];repeat' (first | rfl | trivial | apply And.intro | intro _)
  ·obtain rfl:i=k:=by omega
   simp only [lg hik,cond_false];repeat' (first | rfl | trivial | apply And.intro | intro _)
 ·have hk2:k<=G.n:=hk.2;have hkn:k=G.n:=by omega
  rw [h];simp only [cond_false];refine ⟨⟨hkn,fun i hi=>?_⟩,trivial⟩;repeat' (first | rfl | trivial | apply And.intro | intro _)
def bi9:FSpec:=ab0 21 (γ:=Int×Int) (fun | [.int _ w,.int _ h]=>some (w,h) | _=>none) (fun g=>[.int .i64 g.1,.int .i64 g.2]) (fun _=>True)
 (fun g=> .bool (decide (1<=g.1)&&(decide (g.1<=256)&&(decide (1<=g.2)&&decide (g.2<=256)))))
theorem bq6:aa7 Tw.prog bi9:=by
 refine ssW (specs:=[]) trivial Tw.func21 (fun g=>A0) ?_;rintro ⟨w,h⟩ _;refine ad5 (B:=let A:=Aq;let z0:=(decide ((1:Int)<=w)&&(decide (w<=(256:Int))&&(decide ((1:Int)<=h)&&decide (h<=(256:Int)))));True/\True/\True/\True/\Br (decide ((1:Int)<=w)) (True/\True/\True/\True/\Br (decide (w<=(256:Int))) (True/\True/\True/\True/\Br (decide ((1:Int)<=h)) (True/\True/\True/\True/\True/\A (decide (h<=(256:Int))=z0)) (True/\True/\True/\A (false=z0))) (True/\True/\True/\True/\True/\A (false=z0))) (True/\True/\True/\True/\True/\True/\True/\A (false=z0))) ?_;simp only [cln,lF,lS];refine ⟨fun h1=>⟨fun h2=>⟨fun h3=>?_,fun h3=>?_⟩,fun h2=>?_⟩,fun h1=>?_⟩
 ·rw [lj h1,lj h2,lj h3]; rfl
 ·rw [lg h3]; simp
 ·rw [lg h2]; simp
 ·rw [lg h1]; rfl
structure OfG where
 w:Nat
 h:Nat
 n:Nat
 f:Nat->Vec
def bL7:Gt:=⟨fun _=>false,fun _=>0,0,fun _=>0,fun _ _=>⟨0,0,0⟩,fun _ _=>0,false⟩
noncomputable def ofR (f:Nat->Vec) (W:Nat):Nat->Gt
 | 0=>bL7
 | y+1=>rowA (ofR f W y) y W (fun x=>f (y*W+x))
noncomputable def ofB (g:OfG):Gt:=ofR g.f (16*g.w) (16*g.h)
theorem cm4:∃ f,f=ofB:=⟨_,rfl⟩
noncomputable def ofA:OfG->Gt:=Classical.choose cm4
theorem of_eq:ofA=ofB:=Classical.choose_spec cm4
theorem bF7 (f:Nat->Vec) (y:Int) (len:Nat):∀ n x B G,x<=len->Gok (B+x) G->Gok (B+len) (rowG f y len n x G)
 | 0,x,B,G,h1,h2=>aP1 h2 (by omega)
 | n+1,x,B,G,h1,h2=>by
  rw [aN0];split
  ·rename_i hx;have hb:=(bs5 (f:=f) hx).1;exact bF7 f y len n _ B _ hb.2 (aP1 (bZ8 h2 _ _) (by omega))
  ·exact aP1 h2 (by omega)
theorem b74 {f:Nat->Vec}{y:Int}{len B:Nat}{G:Gt}(h:Gok B G):Gok (B+len) (rowA G y len f):=by
 rw [bF6];exact bF7 f y len len 0 B G (lC _) h
theorem bI2 (f:Nat->Vec) (W:Nat):∀ y,Gok (y*W) (ofR f W y)
 | 0=>⟨lC _,fun _=>lC _,fun l h=>by cases h⟩
 | y+1=>by
  rw [lO,uF];exact b74 (bI2 f W y)
structure OfS where
 y:Nat
 G:Gt
def ofI (g:OfG):Inv:=⟨OfS,fun s=>s.y<=16*g.h/\s.G=ofR g.f (16*g.w) s.y,fun s=>⟨[(0,.int .i64 g.w),(2,a69 g.n g.f),(8,.own 0 0),(23,.int .i64 (16*g.h)),(24,.int .i64 s.y)],gaO s.G 0 0⟩,fun s=>16*g.h-s.y⟩
noncomputable def spOf:FSpec:=ab0 10 (γ:=OfG) (fun | [.int _ w,.int _ h,s]=>some ⟨w.toNat,h.toNat,aj5 s,bV2 s⟩ | _=>none) (fun g=>[.int .i64 g.w,.int .i64 g.h,a69 g.n g.f])
 (fun g=>(1<=g.w/\g.w<=256)/\(1<=g.h/\g.h<=256)/\g.n=256*g.w*g.h) (fun g=>pcA (ofA g))
theorem cm1:aa7 Tw.prog spOf:=by
 refine aD5 (specs:=[bi9,al1,bo5]) (at7 ⟨bq6,cl1,bH4,trivial⟩) (eqs:=[]) (fun _ _ h=>(xf h).elim) Aff.mixed Tw.func10 rfl (by kernel_rfl) (fun _ _=>by kernel_rfl)
  (fun g=>(⟨[(3000005,.news 0 b94),(7,.inv (ofI g))],[(6,[.ownC 0 1 51 1,.deepen 2 3 48,.ownC 0 2 26 8])]⟩:Ann)) (fun g=>lN (by kernel_rfl)) ?_
 rintro g ⟨hw,hh,hn⟩;refine ad5 (B:=let K:=Int.ofNat;let A:=Aq;let z32:=(256:Int);let z31:=(7:Nat);let z30:=(6:Nat);let z29:=(5:Nat);let z28:=(4:Nat);let z27:=(3:Nat);let z26:=(2:Nat);let z24:=(1:Int);let z23:=(1:Nat);let z18:=(((True/\True)/\True)/\True);let z17:=(16:Int);let z15:=(↑g.h:Int);let z14:=(Gt.P (ofA g));let z13:=(↑g.w:Int);let z12:=(0:Nat);let z21:=(True/\A ((bif (ofA g).full then z12 else (ofA g).n)=z12));let z9:=(9223372036854775807:Int);let z8:=(-9223372036854775808:Int);let z4:=(IntKind.i64=IntKind.i64);let q4:=fun p:Int=>A z4/\A (p=p);let z33:=(q4 (z17*z15));let z22:=(q4 z13);let z1:=(IntKind.u8=IntKind.u8);let q1:=fun p:Int=>A z1/\A (p=p);let z5:=(A (g.n=g.n)/\∀ i:Nat,i<g.n->(chp True (fun j:Nat=>q1 (g.f i j)) 7)/\q1 (g.f i z31));True/\True/\True/\True/\((z22/\(q4 z15)/\True)/\A True)/\True/\Br (!(decide (z24<=z13)&&(decide (z13<=z32)&&(decide (z24<=z15)&&decide (z15<=z32))))) (True/\True/\True/\z21/\A z4/\A ((3:Int)=bif (ofA g).full then (2:Int) else (0:Int))) (True/\True/\True/\A (z8<=z32*z13/\z32*z13<=z9)/\True/\A (z8<=z32*z13*z15/\z32*z13*z15<=z9)/\True/\Br (decide ((↑g.n:Int)≠z32*z13*z15)) (True/\True/\True/\z21/\A z4/\A ((4:Int)=bif (ofA g).full then (2:Int) else (0:Int))) (NewsOK Tw.prog Gat.b94/\(True/\A True)/\True/\True/\A (z8<=z17*z15/\z17*z15<=z9)/\True/\(∃ g_1:OfS,A ((ofI g).pre g_1)/\(z22/\z5/\A (z12=z12)/\z33/\(A z4/\A ((0:Int)=(↑g_1.y:Int)))/\True)/\(z18/\A (false=g_1.G.full))/\(∀ (l:List Int),l.length=(8:Nat)->A (false=g_1.G.has l)/\((g_1.G.has l||false)=true->False))/\(A (z12=g_1.G.n)/\(∀ i:Nat,i<g_1.G.n->A (z12=g_1.G.m i)/\∀ (i':Nat),i'<g_1.G.m i->((True/\False)/\False)/\False)/\∀ i:Nat,i<g_1.G.n->True)/\(A (z12=g_1.G.n)/\∀ i:Nat,i<g_1.G.n->(((((((True/\False)/\False)/\False)/\False)/\False)/\False)/\False)/\False)/\True)/\∀ g_1:OfS,let z34:=(z18/\A (g_1.G.full=g_1.G.full));let z20:=(Gt.P g_1.G);let z19:=((g_1.y+z23)*(16:Nat)*g.w);let z16:=(g_1.y*(16:Nat)*g.w);let z11:=(∀ (l:List Int),l.length=(8:Nat)->A (g_1.G.has l=g_1.G.has l)/\((g_1.G.has l||false)=true->q4 (g_1.G.val l)));let z10:=(↑g_1.y:Int);let z7:=(A (g_1.G.n=g_1.G.n)/\(∀ i:Nat,i<g_1.G.n->A (g_1.G.m i=g_1.G.m i)/\∀ (i':Nat),let z25:=(g_1.G.p i i'); i'<g_1.G.m i->((True/\q4 z25.y)/\q4 z25.x0)/\q4 z25.x1)/\∀ i:Nat,i<g_1.G.n->True);let z6:=(K z19-K z16);let z3:=(A (g_1.G.n=g_1.G.n)/\∀ i:Nat,i<g_1.G.n->(chp True (fun j:Nat=>q1 (g_1.G.ink i j)) 7)/\q1 (g_1.G.ink i z31));let z0:=(rowA g_1.G z10 z6.toNat fun (i:Nat)=>g.f ((K z16).toNat+i)); (ofI g).pre g_1->True/\Br (decide (z10<z17*z15)) (True/\True/\True/\True/\True/\True/\A (z8<=z10*z17/\z10*z17<=z9)/\True/\A (z8<=z10*z17*z13/\z10*z17*z13<=z9)/\True/\A (z8<=z10+z24/\z10+z24<=z9)/\A (z8<=(z10+z24)*z17/\(z10+z24)*z17<=z9)/\True/\A (z8<=(z10+z24)*z17*z13/\(z10+z24)*z17*z13<=z9)/\A ((0:Int)<=K z16/\K z16<=K z19/\K z19<=K g.n/\K g.n<=(↑g.n:Int))/\((True/\(A (z12=z12)/\(q4 z10)/\(A (z6.toNat=z6.toNat)/\∀ i:Nat,let z2:=((K z16).toNat+i); i<z6.toNat->(chp True (fun j:Nat=>q1 (g.f z2 j)) 7)/\q1 (g.f z2 z31))/\True)/\z34/\z11/\z7/\z3/\True)/\A (∃ B:Nat,Gok B g_1.G/\B+z6.toNat<=(4294967295:Nat)))/\A (z8<=z10+z24/\z10+z24<=z9)/\True/\∃ (g':OfS),A ((ofI g).pre g')/\((z22/\z5/\A (z12=z12)/\z33/\(A z4/\A (z10+z24=(↑g'.y:Int)))/\True)/\(z18/\A (z0.full=g'.G.full))/\(∀ (l:List Int),l.length=(8:Nat)->A (z0.has l=g'.G.has l)/\((g'.G.has l||false)=true->A z4/\A (z0.val l=g'.G.val l)))/\(A (z0.n=g'.G.n)/\(∀ i:Nat,i<g'.G.n->A (z0.m i=g'.G.m i)/\∀ (i':Nat),i'<g'.G.m i->((True/\A z4/\A ((z0.p i i').y=(g'.G.p i i').y))/\A z4/\A ((z0.p i i').x0=(g'.G.p i i').x0))/\A z4/\A ((z0.p i i').x1=(g'.G.p i i').x1))/\∀ i:Nat,i<g'.G.n->True)/\(A (z0.n=g'.G.n)/\∀ i:Nat,i<g'.G.n->(((((((True/\A z1/\A (z0.ink i z12=g'.G.ink i z12))/\A z1/\A (z0.ink i z23=g'.G.ink i z23))/\A z1/\A (z0.ink i z26=g'.G.ink i z26))/\A z1/\A (z0.ink i z27=g'.G.ink i z27))/\A z1/\A (z0.ink i z28=g'.G.ink i z28))/\A z1/\A (z0.ink i z29=g'.G.ink i z29))/\A z1/\A (z0.ink i z30=g'.G.ink i z30))/\A z1/\A (z0.ink i z31=g'.G.ink i z31))/\True)/\A ((ofI g).meas g'<(ofI g).meas g_1)) (True/\((True/\(A (z12=z12)/\True)/\z34/\z11/\z7/\z3/\True)/\A (g_1.G.n<=(4096:Nat)))/\True/\True/\True/\True/\True/\(True/\A ((bif g_1.G.full then z12 else g_1.G.n)=bif (ofA g).full then z12 else (ofA g).n)/\∀ i:Nat,(i<bif (ofA g).full then z12 else (ofA g).n)->((((((((True/\A (z20.m i=z14.m i)/\∀ i_1:Nat,i_1<z14.m i->((True/\A z4/\A ((g_1.G.p i i_1).y=(z14.p i i_1).y))/\A z4/\A ((g_1.G.p i i_1).x0=(z14.p i i_1).x0))/\A z4/\A ((g_1.G.p i i_1).x1=(z14.p i i_1).x1))/\A z1/\A (z20.ink i z12=z14.ink i z12))/\A z1/\A (z20.ink i z23=z14.ink i z23))/\A z1/\A (z20.ink i z26=z14.ink i z26))/\A z1/\A (z20.ink i z27=z14.ink i z27))/\A z1/\A (z20.ink i z28=z14.ink i z28))/\A z1/\A (z20.ink i z29=z14.ink i z29))/\A z1/\A (z20.ink i z30=z14.ink i z30))/\A z1/\A (z20.ink i z31=z14.ink i z31))/\A z4/\A ((bif g_1.G.full then (2:Int) else (0:Int))=bif (ofA g).full then (2:Int) else (0:Int)))))) ?_;simp only [chp];simp only [cln,lF,lS];simp only [xg,lF];have hsz:(decide (1<=(g.w:Int))&&(decide ((g.w:Int)<=256)&&(decide (1<=(g.h:Int))&&decide ((g.h:Int)<=256))))=true:=by
  simp only [lu,lL]; omega
 have e3:256*g.w*g.h<=256*256*256:=uI (Nat.mul_le_mul_left _ hw.2) hh.2;have c1:(256*(g.w:Int)*g.h)=((256*g.w*g.h:Nat):Int):=by simp
 have start:∀ G:Gt,G=bL7->G.full=false/\(∀ l,G.has l=false)/\G.n=0:=by rintro G rfl; exact ⟨rfl,fun _=>rfl,rfl⟩
 refine ⟨fun hc=>(by rw [hsz] at hc; cases hc),fun _=>⟨by omega,by rw [c1]; omega,fun hc=>absurd (show (g.n:Int)=256*g.w*g.h by rw [c1,hn]) hc,fun _=>⟨cl6,by omega,⟨⟨0,bL7⟩,⟨lC _,rfl⟩,?_⟩,fun s hs=>⟨fun hlt=>?_,fun hge=>?_⟩⟩⟩⟩
 ·exact ⟨rfl,rfl,fun l _=>⟨rfl,fun h=>by cases h⟩,⟨rfl,fun i hi=>absurd hi (ln _)⟩,rfl,fun i hi=>absurd hi (ln _)⟩
 ·have hy:s.y+1<=16*g.h:=by omega
  have e1:(s.y+1)*16*g.w=s.y*16*g.w+16*g.w:=by rw [lO,uF,lO]
  have e2:(s.y+1)*16*g.w<=256*g.w*g.h:=by
   refine lW (lk _ (lk _ hy)) (Nat.le_of_eq ?_);grind
  have c2:((s.y:Int)*16*g.w)=((s.y*16*g.w:Nat):Int):=by simp
  have c3:(((s.y:Int)+1)*16*g.w)=(((s.y+1)*16*g.w:Nat):Int):=by simp
  have hl:((((s.y+1)*16*g.w:Nat):Int)-((s.y*16*g.w:Nat):Int)).toNat=16*g.w:=by omega
  have hG:s.G=ofR g.f (16*g.w) s.y:=hs.2;have hmul:s.y*(16*g.w)=s.y*16*g.w:=(Nat.mul_assoc _ _ _).symm;have hB:Gok (s.y*(16*g.w)) s.G:=hG▸bI2 g.f (16*g.w) s.y;rw [hl];refine ⟨by omega,by rw [c2]; omega,by omega,by omega,by rw [c3]; omega,by omega,⟨_,hB,by rw [hmul]; omega⟩,by omega,⟨s.y+1,rowA s.G s.y (16*g.w) fun i=>g.f (s.y*16*g.w+i)⟩,⟨hy,?_⟩,⟨by simp,bF4 _⟩,by show 16*g.h-(s.y+1)<16*g.h-s.y; omega⟩;show rowA s.G s.y (16*g.w) (fun i=>g.f (s.y*16*g.w+i))=rowA (ofR g.f (16*g.w) s.y) s.y (16*g.w) (fun x=>g.f (s.y*(16*g.w)+x));rw [hG,hmul]
 ·have hy:s.y<=16*g.h:=hs.1;have hG:s.G=ofR g.f (16*g.w) s.y:=hs.2;have e:ofA g=s.G:=by
   rw [of_eq,hG,show s.y=16*g.h by omega];rfl
  have hB:Gok (s.y*(16*g.w)) s.G:=hG▸bI2 g.f (16*g.w) s.y;rw [e];refine ⟨hB.n,⟨rfl,fun i hi=>?_⟩,rfl⟩;repeat' (first | rfl | trivial | apply And.intro | intro _)
end Gar
namespace Rgl
open Rga
def inR (r:Rn) (y x:Int):Bool:=decide (r.y=y/\r.x0<=x/\x<r.x1)
def mem (L:List Rn) (y x:Int):Bool:=L.any (fun r=>inR r y x)
theorem ah3 (r:Rn) (y x:Int):inR r y x=true<->r.y=y/\r.x0<=x/\x<r.x1:=decide_eq_true_iff
theorem mem_iff (L:List Rn) (y x:Int):mem L y x=true<->∃ r∈L,r.y=y/\r.x0<=x/\x<r.x1:=by
 unfold mem;rw [uK];exact ⟨fun ⟨r,h,e⟩=>⟨r,h,(ah3 _ _ _).1 e⟩,fun ⟨r,h,e⟩=>⟨r,h,(ah3 _ _ _).2 e⟩⟩
theorem mem_cons (r:Rn) (L:List Rn) (y x:Int):mem (r::L) y x=(inR r y x||mem L y x):=rfl
theorem aO1 (L M:List Rn) (y x:Int):mem (L++M) y x=(mem L y x||mem M y x):=by
 unfold mem; rw [List.any_append]
theorem ax6 (r:Rn) (y x:Int):mem [r] y x=inR r y x:=by
 unfold mem; simp
theorem ar8:vld []:=⟨fun _ h=>(xf h).elim,List.Pairwise.nil⟩
theorem ae2 {r:Rn}{L:List Rn}:vld (r::L)<->okR r/\(∀ s∈L,ltR r s)/\vld L:=by
 unfold vld;rw [uU];constructor
 ·rintro ⟨h1,h2,h3⟩;exact ⟨h1 r (lK ..),h2,fun s hs=>h1 s (lR _ hs),h3⟩
 ·rintro ⟨h1,h2,h3,h4⟩;refine ⟨fun s hs=>?_,h2,h4⟩;rcases xb.1 hs with rfl | hs
  ·exact h1
  ·exact h3 s hs
theorem az1 {r:Rn}{L:List Rn}:vld (L++[r])<->vld L/\okR r/\∀ s∈L,ltR s r:=by
 unfold vld;rw [List.pairwise_append];constructor
 ·rintro ⟨h1,h2,_,h3⟩;exact ⟨⟨fun s hs=>h1 s (List.mem_append_left _ hs),h2⟩,h1 r (List.mem_append_right _ (xw.2 rfl)),fun s hs=>h3 s hs r (xw.2 rfl)⟩
 ·rintro ⟨⟨h1,h2⟩,h3,h4⟩;refine ⟨fun s hs=>?_,h2,List.pairwise_singleton _ _,fun s hs t ht=>?_⟩
  ·rcases xZ.1 hs with hs | hs
   ·exact h1 s hs
   ·rw [xw.1 hs]; exact h3
  ·rw [xw.1 ht]; exact h4 s hs
theorem beyond {r:Rn}{L:List Rn}(h:vld (r::L)) {y x:Int}(hm:mem L y x=true):r.y<y\/(r.y=y/\r.x1<x):=by
 obtain ⟨s,hs,h1,h2,h3⟩:=(mem_iff _ _ _).1 hm;have:=(ae2.1 h).2.1 s hs
 unfold ltR at this;omega
theorem aE8 {r:Rn}{L:List Rn}(h:vld (r::L)) {y x:Int}(hm:mem (r::L) y x=true):r.y<y\/(r.y=y/\r.x0<=x):=by
 rw [mem_cons,xd] at hm;rcases hm with hm | hm
 ·have:=(ah3 _ _ _).1 hm; omega
 ·have:=beyond h hm
  have:=(ae2.1 h).1.2
  omega
theorem aB3 {r:Rn}{L:List Rn}(h:vld (r::L)):mem (r::L) r.y r.x0=true:=by
 rw [mem_cons,(ah3 _ _ _).2 ⟨rfl,xl _,(ae2.1 h).1.2⟩]; rfl
theorem bn9 {r:Rn}{L:List Rn}(h:vld (r::L)) (y x:Int):mem L y x=(mem (r::L) y x&&!inR r y x):=by
 rw [mem_cons];by_cases hr:inR r y x=true
 ·rw [hr];have:mem L y x≠true:=fun hm=>by
   have:=beyond h hm
   have:=(ah3 _ _ _).1 hr
   omega
  simpa using this
 ·rw [uk] at hr;rw [hr]; simp
theorem cm6 {r:Rn}{L:List Rn}(h:vld (r::L)):¬ mem (r::L) r.y r.x1=true:=by
 rw [mem_cons,xd];rintro (hm | hm)
 ·have:=(ah3 _ _ _).1 hm; omega
 ·have:=beyond h hm; omega
theorem uniq:∀ (L M:List Rn),vld L->vld M->(∀ y x,mem L y x=mem M y x)->L=M:=by
 intro L;induction L with
 | nil=>
  intro M _ hM h;cases M with
  | nil=>rfl
  | cons s M=>
   have:=aB3 hM
   rw [<-h] at this;cases this
 | cons r L ih=>
  intro M hL hM h;cases M with
  | nil=>
   have:=aB3 hL
   rw [h] at this;cases this
  | cons s M=>
   have h1:=aE8 hM (by rw [<-h]; exact aB3 hL);have h2:=aE8 hL (by rw [h]; exact aB3 hM);have ey:r.y=s.y:=by omega
   have ex:r.x0=s.x0:=by omega
   have o1:=(ae2.1 hL).1.2;have o2:=(ae2.1 hM).1.2;have e1:r.x1=s.x1:=by
    rcases Int.lt_trichotomy r.x1 s.x1 with hlt | he | hlt
    ·exact absurd (by rw [h,ey,mem_cons,(ah3 _ _ _).2 ⟨rfl,by omega,hlt⟩]; rfl) (cm6 hL)
    ·exact he
    ·exact absurd (by rw [<-h,<-ey,mem_cons,(ah3 _ _ _).2 ⟨rfl,by omega,hlt⟩]; rfl) (cm6 hM)
   have e:r=s:=by cases r; cases s; simp only at ey ex e1; subst ey ex e1; rfl
   subst e;rw [ih M (ae2.1 hL).2.2 (ae2.1 hM).2.2 (fun y x=>by rw [bn9 hL,bn9 hM,h])]
noncomputable def bc6 (χ:Int->Int->Bool):List Rn:=open Classical in if h:∃ L,vld L/\∀ y x,mem L y x=χ y x then h.choose else []
theorem aA8 (χ:Int->Int->Bool):vld (bc6 χ):=by
 unfold bc6;split
 ·next h=>exact h.choose_spec.1
 ·exact ar8
theorem aK1 {χ:Int->Int->Bool}{L:List Rn}(h1:vld L) (h2:∀ y x,mem L y x=χ y x):bc6 χ=L:=by
 unfold bc6;have h:∃ L,vld L/\∀ y x,mem L y x=χ y x:=⟨L,h1,h2⟩
 rw [dif_pos h];exact uniq _ _ h.choose_spec.1 h1 (fun y x=>by rw [h.choose_spec.2,h2])
def key (r:Rn):Int:=r.y*16385+r.x0
theorem bP3:∀ (L:List Rn) (r:Rn),vld (r::L)->((r::L).length:Int)<=134226112-key r:=by
 intro L;induction L with
 | nil=>
  intro r h;obtain ⟨⟨⟨h1,h2⟩,⟨h3,h4⟩,h5,h6⟩,h7⟩:=(ae2.1 h).1;show (1:Int)<=_;unfold key; omega
 | cons s L ih=>
  intro r h;have h0:=ih s (ae2.1 h).2.2;have hl:=(ae2.1 h).2.1 s (lK ..);obtain ⟨⟨⟨h1,h2⟩,⟨h3,h4⟩,h5,h6⟩,h7⟩:=(ae2.1 h).1;obtain ⟨⟨⟨k1,k2⟩,⟨k3,k4⟩,k5,k6⟩,k7⟩:=(ae2.1 (ae2.1 h).2.2).1;have e:((r::s::L).length:Int)=((s::L).length:Int)+1:=by simp
  rw [e];unfold key ltR at *
  omega
theorem ar9 {L:List Rn}(h:vld L):L.length<=300000000:=by
 cases L with
 | nil=>exact lC _
 | cons r L=>
  have:=bP3 L r h
  obtain ⟨⟨⟨h1,h2⟩,⟨h3,h4⟩,h5,h6⟩,h7⟩:=(ae2.1 h).1;unfold key at this;omega
theorem aj7 (L:List Rn):L=[]\/∃ P s,L=P++[s]:=by
 rcases List.eq_nil_or_concat L with h | ⟨P,s,h⟩
 ·exact .inl h
 ·exact .inr ⟨P,s,by rw [h,List.concat_eq_append]⟩
theorem av3 (P:List Rn) (s r:Rn):addR (P++[s]) r=if r.x0<r.x1 then (if s.y=r.y/\r.x0<=s.x1 then P++[⟨s.y,s.x0,if r.x1>s.x1 then r.x1 else s.x1⟩] else P++[s]++[r]) else P++[s]:=by
 unfold addR;simp
theorem add_nil (r:Rn):addR [] r=if r.x0<r.x1 then [r] else []:=rfl
def aft (L:List Rn) (y x:Int):Prop:=∀ s,L.getLast?=some s->s.y<y\/(s.y=y/\s.x0<=x)
def aftE (L:List Rn) (y x:Int):Prop:=∀ s,L.getLast?=some s->s.y<y\/(s.y=y/\s.x1<=x)
theorem aC8 {P:List Rn}{s:Rn}{y x:Int}:aft (P++[s]) y x<->s.y<y\/(s.y=y/\s.x0<=x):=by
 unfold aft; simp
theorem ap9 {P:List Rn}{s:Rn}{y x:Int}:aftE (P++[s]) y x<->s.y<y\/(s.y=y/\s.x1<=x):=by
 unfold aftE; simp
theorem bO3 {y x:Int}:aft [] y x:=fun s h=>by cases h
theorem bV7 {y x:Int}:aftE [] y x:=fun s h=>by cases h
theorem b30 {L:List Rn}(hL:vld L) {y x:Int}(h:aftE L y x):aft L y x:=by
 rcases aj7 L with rfl | ⟨P,s,rfl⟩
 ·exact bO3
 ·rw [ap9] at h;rw [aC8];have:=(az1.1 hL).2.1.2
  omega
theorem bO4 {L:List Rn}(hL:vld L) {r:Rn}(hr:r.x0<r.x1->okR r) (h:aft L r.y r.x0) :
  vld (addR L r)/\(∀ y x,mem (addR L r) y x=(mem L y x||inR r y x))/\(∀ y x,(r.y<y\/(r.y=y/\r.x0<=x))->aft (addR L r) y x):=by
 by_cases hx:r.x0<r.x1
 ·have hr:=hr hx;rcases aj7 L with rfl | ⟨P,s,rfl⟩
  ·rw [add_nil,lm hx];refine ⟨ae2.2 ⟨hr,fun _ h=>(xf h).elim,ar8⟩,fun y x=>?_,fun y x hy=>?_⟩
   ·rw [ax6]; rfl
   ·exact (aC8 (P:=[])).2 hy
  ·rw [av3,lm hx];obtain ⟨hP,hs,hPs⟩:=az1.1 hL;rw [aC8] at h;obtain ⟨⟨⟨h1,h2⟩,⟨h3,h4⟩,h5,h6⟩,h7⟩:=hr;obtain ⟨⟨⟨k1,k2⟩,⟨k3,k4⟩,k5,k6⟩,k7⟩:=hs;by_cases hm:s.y=r.y/\r.x0<=s.x1
   ·rw [lm hm];refine ⟨az1.2 ⟨hP,⟨⟨⟨k1,k2⟩,⟨k3,k4⟩,?_⟩,?_⟩,fun p hp=>hPs p hp⟩,fun y x=>?_,fun y x hy=>?_⟩
    ·show -8192<=(if r.x1>s.x1 then r.x1 else s.x1)/\(if r.x1>s.x1 then r.x1 else s.x1)<=8192;split<;>omega
    ·show s.x0<(if r.x1>s.x1 then r.x1 else s.x1);split<;>omega
    ·rw [aO1,aO1,ax6,ax6,Bool.or_assoc];congr 1;rw [uS,xd,ah3,ah3,ah3];show s.y=y/\s.x0<=x/\x<(if r.x1>s.x1 then r.x1 else s.x1)<->_;split<;>omega
    ·rw [aC8];show s.y<y\/(s.y=y/\s.x0<=x);omega
   ·rw [lr hm];refine ⟨az1.2 ⟨hL,⟨⟨⟨h1,h2⟩,⟨h3,h4⟩,h5,h6⟩,h7⟩,fun p hp=>?_⟩,fun y x=>?_,fun y x hy=>aC8.2 hy⟩
    ·have hsr:ltR s r:=by unfold ltR; omega
     rcases xZ.1 hp with hp | hp
     ·have:=hPs p hp
      unfold ltR at *
      omega
     ·rw [xw.1 hp]; exact hsr
    ·rw [aO1 _ [r],ax6]
 ·have e:addR L r=L:=lr hx;rw [e];refine ⟨hL,fun y x=>?_,fun y x hy s hs=>?_⟩
  ·have:inR r y x=false:=by
    rw [<-uk,ah3]; omega
   rw [this,lS]
  ·have:=h s hs
   omega
theorem bO6 {L:List Rn}{r:Rn}(h:aftE L r.y r.x0) (hx:r.x0<=r.x1):aftE (addR L r) r.y r.x1:=by
 by_cases hx':r.x0<r.x1
 ·rcases aj7 L with rfl | ⟨P,s,rfl⟩
  ·rw [add_nil,lm hx'];exact (ap9 (P:=[])).2 (.inr ⟨rfl,xl _⟩)
  ·rw [av3,lm hx'];rw [ap9] at h;split
   ·next hm=>
    rw [ap9];show s.y<r.y\/(s.y=r.y/\(if r.x1>s.x1 then r.x1 else s.x1)<=r.x1);split<;>omega
   ·exact ap9.2 (.inr ⟨rfl,xl _⟩)
 ·rw [show addR L r=L from lr hx'];intro s hs;have:=h s hs
  omega
end Rgl
namespace Rgm
open Rga Rgl
def eY (f:Nat->Rn) (k:Nat):Int:=(f (k / 2)).y
abbrev le2 (y x y' x':Int):Prop:=y<y'\/(y=y'/\x<=x')
abbrev lt2 (y x y' x':Int):Prop:=y<y'\/(y=y'/\x<x')
theorem bd9 {a b c d e f:Int}(h:le2 a b c d) (h':le2 c d e f):le2 a b e f:=by omega
theorem b05 {a b c d:Int}(h:lt2 a b c d):le2 a b c d:=by omega
def odd (i:Nat):Bool:=decide (i % 2=1)
theorem bk0 {g:Rg}(h:vld g.L) {i:Nat}(hi:i<g.n):okR (g.f i):=h.1 _ (xi.2 ⟨i,lH.2 hi,rfl⟩)
theorem ca2 {g:Rg}(h:vld g.L) {i j:Nat}(hij:i<j) (hj:j<g.n):ltR (g.f i) (g.f j):=by
 have:=um.1 h.2 i j (by rw [Rg.len]; omega) (by rw [Rg.len]; exact hj) hij
 simpa [Rg.L] using this
theorem a09 {g:Rg}{y x:Int}:mem g.L y x=true<->∃ i,i<g.n/\(g.f i).y=y/\(g.f i).x0<=x/\x<(g.f i).x1:=by
 rw [mem_iff];unfold Rg.L;constructor
 ·rintro ⟨r,hr,h⟩;obtain ⟨i,hi,rfl⟩:=xi.1 hr;exact ⟨i,lH.1 hi,h⟩
 ·rintro ⟨i,hi,h⟩;exact ⟨_,xi.2 ⟨i,lH.2 hi,rfl⟩,h⟩
theorem a63 {g:Rg}(h:vld g.L) {k:Nat}(hk:k<2*g.n):(-8192<=eY g.f k/\eY g.f k<8192)/\ -8192<=eX g.f k/\eX g.f k<=8192:=by
 obtain ⟨⟨⟨h1,h2⟩,⟨h3,h4⟩,h5,h6⟩,h7⟩:=bk0 h (show k / 2<g.n by omega);unfold eY eX;split<;>omega
theorem bm2 {g:Rg}(h:vld g.L) {k l:Nat}(hkl:k<l) (hl:l<2*g.n):lt2 (eY g.f k) (eX g.f k) (eY g.f l) (eX g.f l):=by
 have ok:=(bk0 h (show k / 2<g.n by omega)).2;have ol:=(bk0 h (show l / 2<g.n by omega)).2;unfold eY eX;by_cases e:k / 2=l / 2
 ·rw [lm (by omega),lr (by omega),<-e];exact .inr ⟨rfl,ok⟩
 ·have hlt:=ca2 h (show k / 2<l / 2 by omega) (by omega);unfold ltR at hlt;split<;>split<;>omega
theorem bL8 {g:Rg}(h:vld g.L) {k l:Nat}(hkl:k<=l) (hl:l<2*g.n):le2 (eY g.f k) (eX g.f k) (eY g.f l) (eX g.f l):=by
 rcases Nat.lt_or_eq_of_le hkl with hlt | rfl
 ·have:=bm2 h hlt hl
  omega
 ·exact .inr ⟨rfl,xl _⟩
theorem aV4 {g:Rg}(h:vld g.L) {i:Nat}(hi:i<=2*g.n) {y x:Int}(h1:0<i->le2 (eY g.f (i-1)) (eX g.f (i-1)) y x) (h2:i<2*g.n->lt2 y x (eY g.f i) (eX g.f i)):mem g.L y x=odd i:=by
 unfold odd;by_cases ho:i % 2=1
 ·rw [lj ho,a09];refine ⟨i / 2,by omega,?_⟩;have a1:=h1 (by omega);have a2:=h2 (by omega);unfold eY eX at a1 a2;rw [lm (show (i-1) % 2=0 by omega),show (i-1) / 2=i / 2 by omega] at a1;rw [lr (show ¬ i % 2=0 by omega)] at a2;omega
 ·rw [lg ho,<-uk,a09];rintro ⟨p,hp,e,a,b⟩;by_cases hpi:2*p<i
  ·have hle:=bL8 h (show 2*p+1<=i-1 by omega) (by omega);have a1:=h1 (by omega);have e1:eY g.f (2*p+1)=(g.f p).y:=by unfold eY; rw [show (2*p+1) / 2=p by omega]
   have e2:eX g.f (2*p+1)=(g.f p).x1:=by unfold eX; rw [lr (by omega),show (2*p+1) / 2=p by omega]
   rw [e1,e2] at hle;omega
  ·have hle:=bL8 h (show i<=2*p by omega) (by omega);have a2:=h2 (by omega);have e1:eY g.f (2*p)=(g.f p).y:=by unfold eY; rw [show 2*p / 2=p by omega]
   have e2:eX g.f (2*p)=(g.f p).x0:=by unfold eX; rw [lm (by omega),show 2*p / 2=p by omega]
   rw [e1,e2] at hle;omega
theorem bp3 (f:Nat->Rn) {i:Nat}(ho:i % 2=1):eY f (i-1)=eY f i:=by
 unfold eY; rw [show (i-1) / 2=i / 2 by omega]
theorem cg4 {a b:Rg}(ha:vld a.L) (hb:vld b.L) {K:Bool->Bool->Bool}(hK:K false false=false) {i j:Nat}(hi:i<=2*a.n) (hj:j<=2*b.n) {fy fx ty tx:Int}
  (c1:0<i->le2 (eY a.f (i-1)) (eX a.f (i-1)) fy fx) (c2:0<j->le2 (eY b.f (j-1)) (eX b.f (j-1)) fy fx)
  (u1:i<2*a.n->le2 ty tx (eY a.f i) (eX a.f i)) (u2:j<2*b.n->le2 ty tx (eY b.f j) (eX b.f j))
  (hft:0<i+j->le2 fy fx ty tx) (fok:(-8192<=fy/\fy<8192)/\ -8192<=fx/\fx<=8192) (tok:(-8192<=ty/\ty<8192)/\ -8192<=tx/\tx<=8192)
  {L:List Rn}(hL:vld L) (hE:0<i+j->aftE L fy fx) (h0:i+j=0->L=[])
  (hm:0<i+j->∀ y x,mem L y x=(decide (lt2 y x fy fx)&&K (mem a.L y x) (mem b.L y x)))
  {L':List Rn}(hL':L'=if K (odd i) (odd j) then addR L ⟨fy,fx,tx⟩ else L) :
  vld L'/\aftE L' ty tx/\∀ y x,mem L' y x=(decide (lt2 y x ty tx)&&K (mem a.L y x) (mem b.L y x)):=by
 have par:∀ y x,(0<i+j->le2 fy fx y x)->lt2 y x ty tx->K (mem a.L y x) (mem b.L y x)=K (odd i) (odd j):=fun y x h1 h2=>by
  rw [aV4 ha hi (fun h=>by have:=c1 h; have:=h1 (by omega); omega) (fun h=>by have:=u1 h; omega),aV4 hb hj (fun h=>by have:=c2 h; have:=h1 (by omega); omega) (fun h=>by have:=u2 h; omega)]
 by_cases hk:K (odd i) (odd j)=true
 ·rw [lm hk] at hL';have hpos:0<i+j:=by
   rcases xy (i+j) with h | h
   ·rw [show i=0 by omega,show j=0 by omega] at hk;exact absurd (hk.symm.trans hK) (by decide)
   ·exact h
  have hy:fy=ty:=by
   have hft:=hft hpos;by_cases oi:i % 2=1
   ·have:=bp3 a.f oi
    have:=c1 (by omega)
    have:=u1 (by omega)
    omega
   ·by_cases oj:j % 2=1
    ·have:=bp3 b.f oj
     have:=c2 (by omega)
     have:=u2 (by omega)
     omega
    ·rw [show odd i=false from lg oi,show odd j=false from lg oj] at hk;exact absurd (hk.symm.trans hK) (by decide)
  have hft:=hft hpos;have hE:=hE hpos;have hm:=hm hpos;subst hy;obtain ⟨v,m,_⟩:=bO4 hL (r:=⟨fy,fx,tx⟩) (fun h=>⟨⟨fok.1,⟨fok.2.1,by have:fx<tx:=h; show fx<=8192; omega⟩,tok.2⟩,h⟩) (b30 hL hE);have en:=bO6 (r:=⟨fy,fx,tx⟩) hE (by show fx<=tx; omega);rw [hL'];refine ⟨v,en,fun y x=>?_⟩;rw [m,hm];have hr:inR ⟨fy,fx,tx⟩ y x=decide (fy=y/\fx<=x/\x<tx):=rfl;rw [hr];by_cases d1:lt2 y x fy fx
  ·rw [lj d1,lj (show lt2 y x fy tx by omega),lg (by omega),lS]
  ·rw [lg d1,Bool.false_and,lai];by_cases d2:lt2 y x fy tx
   ·rw [lj d2,lj (by omega),par y x (fun _=>by omega) d2,hk]; rfl
   ·rw [lg d2,lg (by omega)]; rfl
 ·rw [lr hk] at hL';subst hL';rw [uk] at hk;rcases xy (i+j) with h | h
  ·rw [h0 h];refine ⟨ar8,bV7,fun y x=>?_⟩;by_cases d:lt2 y x ty tx
   ·rw [par y x (fun h'=>by omega) d,hk,Bool.and_false]; rfl
   ·rw [lg d]; rfl
  ·have hft:=hft h;refine ⟨hL,fun s hs=>by have:=hE h s hs; omega,fun y x=>?_⟩;rw [hm h];by_cases d1:lt2 y x fy fx
   ·rw [lj d1,lj (show lt2 y x ty tx by omega)]
   ·rw [lg d1,Bool.false_and];by_cases d2:lt2 y x ty tx
    ·rw [par y x (fun _=>by omega) d2,hk,Bool.and_false]
    ·rw [lg d2,Bool.false_and]
theorem swept {a b:Rg}(ha:vld a.L) (hb:vld b.L) {K:Bool->Bool->Bool}(hK:K false false=false) {fy fx:Int}
  (c1:0<2*a.n->le2 (eY a.f (2*a.n-1)) (eX a.f (2*a.n-1)) fy fx) (c2:0<2*b.n->le2 (eY b.f (2*b.n-1)) (eX b.f (2*b.n-1)) fy fx)
  {L:List Rn}(hL:vld L) (h0:2*a.n+2*b.n=0->L=[])
  (hm:0<2*a.n+2*b.n->∀ y x,mem L y x=(decide (lt2 y x fy fx)&&K (mem a.L y x) (mem b.L y x))) :
  bc6 (fun y x=>K (mem a.L y x) (mem b.L y x))=L:=by
 refine aK1 hL (fun y x=>?_);have e0:∀ n:Nat,odd (2*n)=false:=fun n=>lg (by omega)
 have par:(0<2*a.n+2*b.n->le2 fy fx y x)->K (mem a.L y x) (mem b.L y x)=false:=fun h1=>by
  rw [aV4 ha (lf _) (fun h=>by have:=c1 h; have:=h1 (by omega); omega) (fun h=>absurd h (xr _)),aV4 hb (lf _) (fun h=>by have:=c2 h; have:=h1 (by omega); omega) (fun h=>absurd h (xr _)),e0,e0,hK]
 rcases xy (2*a.n+2*b.n) with h | h
 ·rw [h0 h,par (fun h'=>by omega)]; rfl
 ·rw [hm h];by_cases d:lt2 y x fy fx
  ·rw [lj d,Bool.true_and]
  ·rw [lg d,par (fun _=>by omega)]; rfl
theorem ck4 (y x y' x':Int):orI (y-y') (x-x')<=0<->le2 y x y' x':=by
 unfold orI;split<;>omega
structure CbG where
 a:Rg
 b:Rg
structure CsG where
 i:Nat
 j:Nat
 from':Eg
 L:List Rn
structure CbP (g:CbG) (K:Bool->Bool->Bool) (s:CsG):Prop where
 hi:s.i<=2*g.a.n
 hj:s.j<=2*g.b.n
 c1:0<s.i->le2 (eY g.a.f (s.i-1)) (eX g.a.f (s.i-1)) s.from'.y s.from'.x
 c2:0<s.j->le2 (eY g.b.f (s.j-1)) (eX g.b.f (s.j-1)) s.from'.y s.from'.x
 u1:0<s.i+s.j->s.i<2*g.a.n->le2 s.from'.y s.from'.x (eY g.a.f s.i) (eX g.a.f s.i)
 u2:0<s.i+s.j->s.j<2*g.b.n->le2 s.from'.y s.from'.x (eY g.b.f s.j) (eX g.b.f s.j)
 fok:(-8192<=s.from'.y/\s.from'.y<8192)/\ -8192<=s.from'.x/\s.from'.x<=8192
 hL:vld s.L
 hE:0<s.i+s.j->aftE s.L s.from'.y s.from'.x
 h0:s.i+s.j=0->s.L=[]
 hm:0<s.i+s.j->∀ y x,mem s.L y x=(decide (lt2 y x s.from'.y s.from'.x)&&K (mem g.a.L y x) (mem g.b.L y x))
theorem bs4 (g:CbG) (K:Bool->Bool->Bool):CbP g K ⟨0,0,⟨0,0,0⟩,[]⟩ where
 hi:=lC _
 hj:=lC _
 c1:=fun h=>absurd h (xr _)
 c2:=fun h=>absurd h (xr _)
 u1:=fun h=>absurd h (xr _)
 u2:=fun h=>absurd h (xr _)
 fok:=by decide
 hL:=ar8
 hE:=fun h=>absurd h (xr _)
 h0:=fun _=>rfl
 hm:=fun h=>absurd h (xr _)
def nxL (K:Bool->Bool->Bool) (s:CsG) (tx:Int):List Rn:=if K (odd s.i) (odd s.j) then addR s.L ⟨s.from'.y,s.from'.x,tx⟩ else s.L
theorem bs3 {g:CbG}{K:Bool->Bool->Bool}{s:CsG}(ha:vld g.a.L) (hb:vld g.b.L) (hK:K false false=false) (h:CbP g K s) (hi:s.i<2*g.a.n) (hle:s.j<2*g.b.n->le2 (eY g.a.f s.i) (eX g.a.f s.i) (eY g.b.f s.j) (eX g.b.f s.j)) :
  CbP g K ⟨s.i+1,s.j,eAt g.a.f 0 s.i,nxL K s (eX g.a.f s.i)⟩:=by
 have ho:=a63 ha hi;obtain ⟨v,e,m⟩:=cg4 ha hb hK h.hi h.hj h.c1 h.c2 (fun _=> .inr ⟨rfl,xl _⟩) hle (fun h'=>h.u1 h' hi) h.fok ho h.hL h.hE h.h0 h.hm (L':=nxL K s (eX g.a.f s.i)) rfl;exact { hi:=hi,hj:=h.hj,c1:=fun _=> .inr ⟨rfl,xl _⟩,c2:=fun h'=>bd9 (h.c2 h') (h.u1 (by have h':0<s.j:=h';omega) hi),u1:=fun _ h'=>b05 (bm2 ha (xB s.i) h'),u2:=fun _ h'=>hle h',fok:=ho,hL:=v,hE:=fun _=>e,h0:=fun h'=>absurd (show s.i+1+s.j=0 from h') (by omega),hm:=fun _=>m }
theorem bs2 {g:CbG}{K:Bool->Bool->Bool}{s:CsG}(ha:vld g.a.L) (hb:vld g.b.L) (hK:K false false=false) (h:CbP g K s) (hj:s.j<2*g.b.n) (hle:s.i<2*g.a.n->le2 (eY g.b.f s.j) (eX g.b.f s.j) (eY g.a.f s.i) (eX g.a.f s.i)) :
  CbP g K ⟨s.i,s.j+1,eAt g.b.f 1 s.j,nxL K s (eX g.b.f s.j)⟩:=by
 have ho:=a63 hb hj;obtain ⟨v,e,m⟩:=cg4 ha hb hK h.hi h.hj h.c1 h.c2 hle (fun _=> .inr ⟨rfl,xl _⟩) (fun h'=>h.u2 h' hj) h.fok ho h.hL h.hE h.h0 h.hm (L':=nxL K s (eX g.b.f s.j)) rfl;exact { hi:=h.hi,hj:=hj,c2:=fun _=> .inr ⟨rfl,xl _⟩,c1:=fun h'=>bd9 (h.c1 h') (h.u2 (by have h':0<s.i:=h';omega) hj),u2:=fun _ h'=>b05 (bm2 hb (xB s.j) h'),u1:=fun _ h'=>hle h',fok:=ho,hL:=v,hE:=fun _=>e,h0:=fun h'=>absurd (show s.i+(s.j+1)=0 from h') (by omega),hm:=fun _=>m }
theorem b23 {g:CbG}{K:Bool->Bool->Bool}{s:CsG}(ha:vld g.a.L) (hb:vld g.b.L) (hK:K false false=false) (h:CbP g K s) (hi:s.i=2*g.a.n) (hj:s.j=2*g.b.n) :
  bc6 (fun y x=>K (mem g.a.L y x) (mem g.b.L y x))=s.L:=by
 have c1:=h.c1; have c2:=h.c2; have h0:=h.h0; have hm:=h.hm;rw [hi] at c1 h0 hm;rw [hj] at c2 h0 hm;exact swept ha hb hK c1 c2 h.hL h0 hm
end Rgm
namespace Rgn
open Rga Rgl Rgm
def sumR (f:Int->Int) (lo:Int):Nat->Int
 | 0=>0
 | n+1=>sumR f lo n+f (lo+n)
def b2i (b:Bool):Int:=if b then 1 else 0
def cnt (χ:Int->Int->Bool):Int:=sumR (fun y=>sumR (fun x=>b2i (χ y x)) (-8192) 16384) (-8192) 16384
def Lf (f:Nat->Rn) (n:Nat):List Rn:=(List.range n).map f
theorem aR7 (f:Nat->Rn) (n:Nat):Lf f (n+1)=Lf f n++[f n]:=by
 unfold Lf;rw [List.range_succ,List.map_append];rfl
theorem aw3 (f:Nat->Rn) (n:Nat):(Lf f n).length=n:=by simp [Lf]
theorem aX5 (f:Nat->Rn) {n i:Nat}(h:i<n):rI (Lf f n) i=f i:=Rg.rI (g:=⟨n,f⟩) h
theorem bt5 {f g:Nat->Rn}{n:Nat}(h:∀ i,i<n->f i=g i):Lf f n=Lf g n:=uN (fun i hi=>h i (lH.1 hi))
theorem ce6 (L:List Rn):Lf (rI L) L.length=L:=Rg.L_of L
theorem cd9 {L:List Rn}{r:Rn}(hr:r.x0<r.x1) (h:∀ s,L.getLast?=some s->ltR s r):addR L r=L++[r]:=by
 rcases aj7 L with rfl | ⟨P,s,rfl⟩
 ·rw [add_nil,lm hr]; rfl
 ·have hs:=h s (by simp);unfold ltR at hs;rw [av3,lm hr,lr (by omega)]
theorem ce7 {f:Nat->Rn}{n:Nat}{s:Rn}(h:(Lf f n).getLast?=some s):0<n/\s=f (n-1):=by
 cases n with
 | zero=>cases h
 | succ n=>
  rw [aR7] at h;simp at h;exact ⟨xD n,h.symm⟩
theorem bV8 {f:Nat->Rn}{n:Nat}(hr:(f n).x0<(f n).x1) (h:0<n->ltR (f (n-1)) (f n)):addR (Lf f n) (f n)=Lf f (n+1):=by
 rw [aR7];refine cd9 hr (fun s hs=>?_);obtain ⟨h0,rfl⟩:=ce7 hs;exact h h0
def shR (dx dy:Int) (r:Rn):Rn:=⟨r.y+dy,r.x0+dx,r.x1+dx⟩
def le0 (r s:Rn):Prop:=r.y<s.y\/(r.y=s.y/\r.x0<=s.x0)
structure JoP (f:Nat->Rn) (n i:Nat) (L:List Rn):Prop where
 hi:i<=n
 hL:vld L
 hm:∀ y x,mem L y x=mem (Lf f i) y x
 ha:∀ k,i<=k->k<n->aft L (f k).y (f k).x0
theorem a14 (f:Nat->Rn) (n:Nat):JoP f n 0 []:=⟨lC _,ar8,fun _ _=>rfl,fun _ _ _=>bO3⟩
theorem bk5 {f:Nat->Rn}{n i:Nat}{L:List Rn}(ok:∀ k,k<n->okR (f k)) (srt:∀ j k,j<k->k<n->le0 (f j) (f k)) (h:JoP f n i L) (hi:i<n):JoP f n (i+1) (addR L (f i)):=by
 obtain ⟨v,m,a⟩:=bO4 h.hL (fun _=>ok i hi) (h.ha i (lf _) hi);refine ⟨hi,v,fun y x=>?_,fun k hk hkn=>a _ _ ?_⟩
 ·rw [m,h.hm,aR7,aO1,ax6]
 ·have:=srt i k hk hkn
  unfold le0 at this;exact this
theorem mem_congr {L M:List Rn}(h:∀ r,r∈L<->r∈M) (y x:Int):mem L y x=mem M y x:=by
 rw [uS,mem_iff,mem_iff];exact ⟨fun ⟨r,a,b⟩=>⟨r,(h r).1 a,b⟩,fun ⟨r,a,b⟩=>⟨r,(h r).2 a,b⟩⟩
end Rgn
namespace Rge
open Go.Shelf Go.RowKit Go.Lib Go.Sort Num Rga
theorem b85 (x y:Int) (b:Nat) (W:World) (h0:W.cell? ⟨b,0,none⟩=some (.int .i64 x)) (h1:W.cell? ⟨b,1,none⟩=some (.int .i64 y)) :
  Calls Tw.prog 46 #[.slice (some ⟨b,0,none⟩) 2 2] W fun e w'=>e = .returned (.int .i64 (orI x y))/\w'=W:=by
 by_cases hx:x=0
 ·have e:orI x y=y:=lm hx;rw [e];clear e;subst hx;by_cases hy:y=0
  ·subst hy;go_enter Tw.func46,Tw.ntmps46
   go_wp2
   refine wp_loop_rounds 3 ?_;rw [rounds_succ];go_wp2
   rw [rounds_succ];go_wp2
   rw [rounds_succ];go_wp2
   go_ret
   exact ⟨rfl,rfl⟩
  ·go_enter Tw.func46,Tw.ntmps46
   go_wp2
   refine wp_loop_rounds 3 ?_;rw [rounds_succ];go_wp2
   rw [rounds_succ];go_wp2
   go_ret
   exact ⟨rfl,rfl⟩
 ·have e:orI x y=x:=lr hx;rw [e];clear e;go_enter Tw.func46,Tw.ntmps46
  go_wp2
  refine wp_loop_rounds 3 ?_;rw [rounds_succ];go_wp2
  go_ret
  exact ⟨rfl,rfl⟩
theorem aC6 {X:World}{vs:Array Value}{T n i:Nat}{v:Value}(hn:X.heap.size=n) (hv:vs[i]?=some v):(X.alloc (.cells vs T)).cell? ⟨n,i,none⟩=some v:=by
 subst hn;simp [hv]
theorem a68 (a0 a1 a2 b0 b1 b2:Int) (W:World) (h0 : -9223372036854775808<=a0-b0/\a0-b0<=9223372036854775807) (h1 : -9223372036854775808<=a1-b1/\a1-b1<=9223372036854775807) :
  Calls Tw.prog 77 #[.agg #[.int .i64 a0,.int .i64 a1,.int .i64 a2],.agg #[.int .i64 b0,.int .i64 b1,.int .i64 b2]] W fun e w'=>e = .returned (.int .i64 (orI (a0-b0) (a1-b1)))/\∃ q os',w'=grow (W.drewN q) os':=by
 have hcon:=fun b W' h0 h1=>b85 (a0-b0) (a1-b1) b W' h0 h1
 generalize orI (a0-b0) (a1-b1)=r at hcon ⊢;go_enter Tw.func77,Tw.ntmps77
 go_wp2_with (go_at_call 46; refine (hcon _ _ (aC6 (by simp) rfl) (aC6 (by simp) rfl)).mono ?_; rintro e w' ⟨rfl,rfl⟩)
 go_ret
 exact ⟨rfl,0,_,by rw [alloc_eq_grow,alloc_eq_grow,alloc_eq_grow,grow_grow,grow_grow]; rfl⟩
end Rge
namespace Rgb
open Go.RowKit Sx Num Aff Con Rga Rgl Rgm
def eS (g:Rg) (w:Int) (i:Nat):SV:= .sl (2*g.n-i) 3 (fun k=>lst [.int .i64 (g.f ((k+i) / 2)).y,.int .i64 (eX g.f (k+i)),.int .i64 w])
def a74 (g:CbG) (K:Bool->Bool->Bool) (F:Nat):Inv:=⟨CsG,CbP g K,fun s=>⟨[(2,.fn F 0 (lst [])),(7,eS g.a 0 s.i),(8,eS g.b 1 s.j),(9,.own 0 0),(10,.own 1 0),(11,.own 3 0),(12,.bool (K (odd s.i) (odd s.j)))],
  [.cells 2 (lst [.bool (odd s.i),.bool (odd s.j)]) 129,.cells 1 (lst [.osl 2 0]) 51,.row 0 s.L.length 3 (fun i=>lst (rnL (rI s.L i))) 48,.cells 3 (lst (egL s.from')) 131]⟩,fun s=>2*g.a.n+2*g.b.n-s.i-s.j⟩
noncomputable def ao0 (K:Bool->Bool->Bool) (g:CbG):List Rn:=bc6 (fun y x=>K (mem g.a.L y x) (mem g.b.L y x))
theorem aK2 (i:Nat):(!odd i)=odd (i+1):=by
 unfold odd;by_cases h:i % 2=1
 ·rw [lj h,lg (by omega)]; rfl
 ·rw [lg h,lj (by omega)]; rfl
theorem addL (L:List Rn) (r:Rn):AdG.L ⟨L.length,rI L,r⟩=addR L r:=by
 show addR (Rg.L ⟨L.length,rI L⟩) r=addR L r;rw [Rg.L_of]
theorem tA {g:CbG}{K:Bool->Bool->Bool}{F:Nat}{s:CsG}(ha:vld g.a.L) (hb:vld g.b.L) (hK:K false false=false) (h:CbP g K s) (hi:s.i<2*g.a.n) (hle:s.j<2*g.b.n->le2 (eY g.a.f s.i) (eX g.a.f s.i) (eY g.b.f s.j) (eX g.b.f s.j)) {M:List Rn}(hM:M=nxL K s (eX g.a.f s.i)) :
  ∃ g',(a74 g K F).pre g'/\((((Int.ofNat (2*g.a.n-s.i)-Int.ofNat 1).toNat=2*g.a.n-g'.i/\∀ i,i<2*g.a.n-g'.i->(g.a.f (((Int.ofNat 1).toNat+i+s.i) / 2)).y=(g.a.f ((i+g'.i) / 2)).y/\eX g.a.f ((Int.ofNat 1).toNat+i+s.i)=eX g.a.f (i+g'.i))/\
   (2*g.b.n-s.j=2*g.b.n-g'.j/\∀ i,i<2*g.b.n-g'.j->(g.b.f ((i+s.j) / 2)).y=(g.b.f ((i+g'.j) / 2)).y/\eX g.b.f (i+s.j)=eX g.b.f (i+g'.j))/\K (!odd s.i) (odd s.j)=K (odd g'.i) (odd g'.j))/\
   ((!odd s.i)=odd g'.i/\odd s.j=odd g'.j)/\(M.length=g'.L.length/\∀ i,i<g'.L.length->((rI M i).y=(rI g'.L i).y/\(rI M i).x0=(rI g'.L i).x0)/\(rI M i).x1=(rI g'.L i).x1)/\
   ((g.a.f ((Int.toNat 0+s.i) / 2)).y=g'.from'.y/\eX g.a.f (Int.toNat 0+s.i)=g'.from'.x)/\0=g'.from'.who)/\(a74 g K F).meas g'<(a74 g K F).meas s:=by
 have z1:(Int.ofNat (2*g.a.n-s.i)-Int.ofNat 1).toNat=2*g.a.n-(s.i+1):=by
  show (((2*g.a.n-s.i:Nat):Int)-((1:Nat):Int)).toNat=_;omega
 have z2:∀ k:Nat,(Int.ofNat 1).toNat+k+s.i=k+(s.i+1):=fun k=>by show 1+k+s.i=_; omega
 have z3:Int.toNat 0+s.i=s.i:=lG _;have P:=bs3 ha hb hK h hi hle;have hj:=h.hj;refine ⟨⟨s.i+1,s.j,eAt g.a.f 0 s.i,M⟩,by rw [hM]; exact P,⟨⟨⟨z1,fun k _=>by rw [z2]; exact ⟨rfl,rfl⟩⟩,⟨rfl,fun k _=>⟨rfl,rfl⟩⟩,by rw [aK2]⟩,⟨aK2 _,rfl⟩,⟨rfl,fun k _=>⟨⟨rfl,rfl⟩,rfl⟩⟩,by rw [z3]; exact ⟨rfl,rfl⟩,rfl⟩,?_⟩;show 2*g.a.n+2*g.b.n-(s.i+1)-s.j<2*g.a.n+2*g.b.n-s.i-s.j;omega
theorem tB {g:CbG}{K:Bool->Bool->Bool}{F:Nat}{s:CsG}(ha:vld g.a.L) (hb:vld g.b.L) (hK:K false false=false) (h:CbP g K s) (hj:s.j<2*g.b.n) (hle:s.i<2*g.a.n->le2 (eY g.b.f s.j) (eX g.b.f s.j) (eY g.a.f s.i) (eX g.a.f s.i)) {M:List Rn}(hM:M=nxL K s (eX g.b.f s.j)) :
  ∃ g',(a74 g K F).pre g'/\(((2*g.a.n-s.i=2*g.a.n-g'.i/\∀ i,i<2*g.a.n-g'.i->(g.a.f ((i+s.i) / 2)).y=(g.a.f ((i+g'.i) / 2)).y/\eX g.a.f (i+s.i)=eX g.a.f (i+g'.i))/\
   ((Int.ofNat (2*g.b.n-s.j)-Int.ofNat 1).toNat=2*g.b.n-g'.j/\∀ i,i<2*g.b.n-g'.j->(g.b.f (((Int.ofNat 1).toNat+i+s.j) / 2)).y=(g.b.f ((i+g'.j) / 2)).y/\eX g.b.f ((Int.ofNat 1).toNat+i+s.j)=eX g.b.f (i+g'.j))/\K (odd s.i) (!odd s.j)=K (odd g'.i) (odd g'.j))/\
   (odd s.i=odd g'.i/\(!odd s.j)=odd g'.j)/\(M.length=g'.L.length/\∀ i,i<g'.L.length->((rI M i).y=(rI g'.L i).y/\(rI M i).x0=(rI g'.L i).x0)/\(rI M i).x1=(rI g'.L i).x1)/\
   ((g.b.f ((Int.toNat 0+s.j) / 2)).y=g'.from'.y/\eX g.b.f (Int.toNat 0+s.j)=g'.from'.x)/\1=g'.from'.who)/\(a74 g K F).meas g'<(a74 g K F).meas s:=by
 have z1:(Int.ofNat (2*g.b.n-s.j)-Int.ofNat 1).toNat=2*g.b.n-(s.j+1):=by
  show (((2*g.b.n-s.j:Nat):Int)-((1:Nat):Int)).toNat=_;omega
 have z2:∀ k:Nat,(Int.ofNat 1).toNat+k+s.j=k+(s.j+1):=fun k=>by show 1+k+s.j=_; omega
 have z3:Int.toNat 0+s.j=s.j:=lG _;have P:=bs2 ha hb hK h hj hle;have hi:=h.hi;refine ⟨⟨s.i,s.j+1,eAt g.b.f 1 s.j,M⟩,by rw [hM]; exact P,⟨⟨⟨rfl,fun k _=>⟨rfl,rfl⟩⟩,⟨z1,fun k _=>by rw [z2]; exact ⟨rfl,rfl⟩⟩,by rw [aK2]⟩,⟨rfl,aK2 _⟩,⟨rfl,fun k _=>⟨⟨rfl,rfl⟩,rfl⟩⟩,by rw [z3]; exact ⟨rfl,rfl⟩,rfl⟩,?_⟩;show 2*g.a.n+2*g.b.n-s.i-(s.j+1)<2*g.a.n+2*g.b.n-s.i-s.j;omega
def mn (a b:Bool):Bool:=a&&!b
def cbB (g:CbG) (K:Bool->Bool->Bool) (F:Nat):Prop:=let z38:=(4294967296:Nat);let z35:=(9223372036854775807:Int);let z34:=(-9223372036854775808:Int);let z32:=(1:Nat);let z31:=(True/\True);let z25:=((1:Int)=(1:Int));let z21:=(Aq (F=F)/\True);let z20:=(Int.ofNat z32);let z16:=(a74 g K F);let z9:=((0:Nat)=(0:Nat));let z6:=(2:Nat);let z5:=(0:Int); let z17:=(z5<=z5/\z5<(↑z6:Int)); let z15:=(z5<=(1:Int)/\(1:Int)<(↑z6:Int));let z4:=(IntKind.i64=IntKind.i64);True/\True/\(((Aq (g.a.n=g.a.n)/\∀ (i:Nat),i<g.a.n->((True/\Aq z4/\Aq ((g.a.f i).y=(g.a.f i).y))/\Aq z4/\Aq ((g.a.f i).x0=(g.a.f i).x0))/\Aq z4/\Aq ((g.a.f i).x1=(g.a.f i).x1))/\(Aq z4/\Aq (z5=z5))/\True)/\Aq (g.a.n<=z38))/\True/\(((Aq (g.b.n=g.b.n)/\∀ (i:Nat),i<g.b.n->((True/\Aq z4/\Aq ((g.b.f i).y=(g.b.f i).y))/\Aq z4/\Aq ((g.b.f i).x0=(g.b.f i).x0))/\Aq z4/\Aq ((g.b.f i).x1=(g.b.f i).x1))/\(Aq z4/\Aq z25)/\True)/\Aq (g.b.n<=z38))/\True/\True/\True/\True/\True/\True/\True/\True/\(∃ (g_1:CsG),Aq (z16.pre g_1)/\((Aq ((F:Go.FuncId)=F)/\True)/\(Aq (z6*g.a.n=z6*g.a.n-g_1.i)/\∀ (i:Nat),i<z6*g.a.n-g_1.i->((True/\Aq z4/\Aq ((g.a.f (i / z6)).y=(g.a.f ((i+g_1.i) / z6)).y))/\Aq z4/\Aq (eX g.a.f i=eX g.a.f (i+g_1.i)))/\Aq z4/\Aq (z5=z5))/\(Aq (z6*g.b.n=z6*g.b.n-g_1.j)/\∀ (i:Nat),i<z6*g.b.n-g_1.j->((True/\Aq z4/\Aq ((g.b.f (i / z6)).y=(g.b.f ((i+g_1.j) / z6)).y))/\Aq z4/\Aq (eX g.b.f i=eX g.b.f (i+g_1.j)))/\Aq z4/\Aq z25)/\Aq z9/\Aq z9/\Aq z9/\Aq (false=K (odd g_1.i) (odd g_1.j))/\True)/\((True/\Aq (false=odd g_1.i))/\Aq (false=odd g_1.j))/\z31/\(Aq ((0:Nat)=g_1.L.length)/\∀ (i:Nat),i<g_1.L.length->((True/\False)/\False)/\False)/\(((True/\Aq z4/\Aq (z5=g_1.from'.y))/\Aq z4/\Aq (z5=g_1.from'.x))/\Aq z4/\Aq (z5=g_1.from'.who))/\True)/\∀ (g_1:CsG),let z37:=(Aq z4/\Aq (g_1.from'.x=g_1.from'.x)); let z36:=(Aq z4/\Aq (g_1.from'.y=g_1.from'.y)); let z33:=(!odd g_1.i); let z24:=(K (odd g_1.i) (odd g_1.j)); let z23:=((Aq (z33 = !odd g_1.i)/\Aq (odd g_1.j=odd g_1.j)/\True)/\Aq True); let z22:=((Aq (odd g_1.i=odd g_1.i)/\Aq ((!odd g_1.j) = !odd g_1.j)/\True)/\Aq True); let z12:=(Aq (g_1.L.length=g_1.L.length)/\∀ (i:Nat),let z30:=(Rga.rI g_1.L i); i<g_1.L.length->((True/\Aq z4/\Aq (z30.y=z30.y))/\Aq z4/\Aq (z30.x0=z30.x0))/\Aq z4/\Aq (z30.x1=z30.x1)); let z11:=(z6*g.a.n-g_1.i); let z39:=(↑z11:Int); let z28:=(z5<=z5/\z5<z39); let z18:=(z5<=Int.ofNat z32/\Int.ofNat z32<=Int.ofNat z11/\Int.ofNat z11<=Int.ofNat z11/\Int.ofNat z11<=z39); let z10:=(z6*g.b.n-g_1.j); let z40:=(↑z10:Int); let z29:=(z5<=z5/\z5<z40); let z19:=(z5<=Int.ofNat z32/\Int.ofNat z32<=Int.ofNat z10/\Int.ofNat z10<=Int.ofNat z10/\Int.ofNat z10<=z40); let z8:=(Int.toNat z5+g_1.i); let z27:=(g.a.f (z8 / z6)); let z14:=(AdG.mk g_1.L.length (Rga.rI g_1.L) (Rn.mk g_1.from'.y g_1.from'.x (eX g.a.f z8))); let z7:=(Int.toNat z5+g_1.j); let z26:=(g.b.f (z7 / z6)); let z13:=(AdG.mk g_1.L.length (Rga.rI g_1.L) (Rn.mk g_1.from'.y g_1.from'.x (eX g.b.f z7))); let z3:=(True/\True/\True/\True/\Aq z15/\True/\True/\Aq z15/\True/\True/\True/\Aq z17/\True/\Aq z15/\True/\z22/\True/\True/\∃ (g':CsG),Aq (z16.pre g')/\((z21/\(Aq (z6*g.a.n-g_1.i=z6*g.a.n-g'.i)/\∀ (i:Nat),i<z6*g.a.n-g'.i->((True/\Aq z4/\Aq ((g.a.f ((i+g_1.i) / z6)).y=(g.a.f ((i+g'.i) / z6)).y))/\Aq z4/\Aq (eX g.a.f (i+g_1.i)=eX g.a.f (i+g'.i)))/\Aq z4/\Aq (z5=z5))/\(Aq ((Int.ofNat z10-Int.ofNat z32).toNat=z6*g.b.n-g'.j)/\∀ (i:Nat),i<z6*g.b.n-g'.j->((True/\Aq z4/\Aq ((g.b.f ((z20.toNat+i+g_1.j) / z6)).y=(g.b.f ((i+g'.j) / z6)).y))/\Aq z4/\Aq (eX g.b.f (z20.toNat+i+g_1.j)=eX g.b.f (i+g'.j)))/\Aq z4/\Aq z25)/\Aq z9/\Aq z9/\Aq z9/\Aq ((K (odd g_1.i) !odd g_1.j)=K (odd g'.i) (odd g'.j))/\True)/\((True/\Aq (odd g_1.i=odd g'.i))/\Aq ((!odd g_1.j)=odd g'.j))/\z31/\(Aq (g_1.L.length=g'.L.length)/\∀ (i:Nat),i<g'.L.length->((True/\Aq z4/\Aq ((Rga.rI g_1.L i).y=(Rga.rI g'.L i).y))/\Aq z4/\Aq ((Rga.rI g_1.L i).x0=(Rga.rI g'.L i).x0))/\Aq z4/\Aq ((Rga.rI g_1.L i).x1=(Rga.rI g'.L i).x1))/\(((True/\Aq z4/\Aq (z26.y=g'.from'.y))/\Aq z4/\Aq (eX g.b.f z7=g'.from'.x))/\Aq z4/\Aq ((1:Int)=g'.from'.who))/\True)/\Aq (z16.meas g'<z16.meas g_1)); let z2:=(True/\True/\True/\True/\Aq z17/\True/\True/\Aq z17/\True/\True/\True/\Aq z17/\True/\Aq z15/\True/\z23/\True/\True/\∃ (g':CsG),Aq (z16.pre g')/\((z21/\(Aq ((Int.ofNat z11-Int.ofNat z32).toNat=z6*g.a.n-g'.i)/\∀ (i:Nat),i<z6*g.a.n-g'.i->((True/\Aq z4/\Aq ((g.a.f ((z20.toNat+i+g_1.i) / z6)).y=(g.a.f ((i+g'.i) / z6)).y))/\Aq z4/\Aq (eX g.a.f (z20.toNat+i+g_1.i)=eX g.a.f (i+g'.i)))/\Aq z4/\Aq (z5=z5))/\(Aq (z6*g.b.n-g_1.j=z6*g.b.n-g'.j)/\∀ (i:Nat),i<z6*g.b.n-g'.j->((True/\Aq z4/\Aq ((g.b.f ((i+g_1.j) / z6)).y=(g.b.f ((i+g'.j) / z6)).y))/\Aq z4/\Aq (eX g.b.f (i+g_1.j)=eX g.b.f (i+g'.j)))/\Aq z4/\Aq z25)/\Aq z9/\Aq z9/\Aq z9/\Aq (K z33 (odd g_1.j)=K (odd g'.i) (odd g'.j))/\True)/\((True/\Aq (z33=odd g'.i))/\Aq (odd g_1.j=odd g'.j))/\z31/\(Aq (g_1.L.length=g'.L.length)/\∀ (i:Nat),i<g'.L.length->((True/\Aq z4/\Aq ((Rga.rI g_1.L i).y=(Rga.rI g'.L i).y))/\Aq z4/\Aq ((Rga.rI g_1.L i).x0=(Rga.rI g'.L i).x0))/\Aq z4/\Aq ((Rga.rI g_1.L i).x1=(Rga.rI g'.L i).x1))/\(((True/\Aq z4/\Aq (z27.y=g'.from'.y))/\Aq z4/\Aq (eX g.a.f z8=g'.from'.x))/\Aq z4/\Aq (z5=g'.from'.who))/\True)/\Aq (z16.meas g'<z16.meas g_1)); let z1:=(True/\True/\True/\True/\True/\True/\((True/\(Aq z9/\z36/\z37/\(Aq z4/\Aq (eX g.b.f z7=eX g.b.f z7))/\True)/\z31/\z12/\True)/\Aq (g_1.L.length<=z38))/\True/\True/\True/\True/\Aq z15/\True/\True/\Aq z15/\True/\True/\True/\Aq z17/\True/\Aq z15/\True/\z22/\True/\True/\∃ (g':CsG),Aq (z16.pre g')/\((z21/\(Aq (z6*g.a.n-g_1.i=z6*g.a.n-g'.i)/\∀ (i:Nat),i<z6*g.a.n-g'.i->((True/\Aq z4/\Aq ((g.a.f ((i+g_1.i) / z6)).y=(g.a.f ((i+g'.i) / z6)).y))/\Aq z4/\Aq (eX g.a.f (i+g_1.i)=eX g.a.f (i+g'.i)))/\Aq z4/\Aq (z5=z5))/\(Aq ((Int.ofNat z10-Int.ofNat z32).toNat=z6*g.b.n-g'.j)/\∀ (i:Nat),i<z6*g.b.n-g'.j->((True/\Aq z4/\Aq ((g.b.f ((z20.toNat+i+g_1.j) / z6)).y=(g.b.f ((i+g'.j) / z6)).y))/\Aq z4/\Aq (eX g.b.f (z20.toNat+i+g_1.j)=eX g.b.f (i+g'.j)))/\Aq z4/\Aq z25)/\Aq z9/\Aq z9/\Aq z9/\Aq ((K (odd g_1.i) !odd g_1.j)=K (odd g'.i) (odd g'.j))/\True)/\((True/\Aq (odd g_1.i=odd g'.i))/\Aq ((!odd g_1.j)=odd g'.j))/\z31/\(Aq (z13.L.length=g'.L.length)/\∀ (i:Nat),i<g'.L.length->((True/\Aq z4/\Aq ((Rga.rI z13.L i).y=(Rga.rI g'.L i).y))/\Aq z4/\Aq ((Rga.rI z13.L i).x0=(Rga.rI g'.L i).x0))/\Aq z4/\Aq ((Rga.rI z13.L i).x1=(Rga.rI g'.L i).x1))/\(((True/\Aq z4/\Aq (z26.y=g'.from'.y))/\Aq z4/\Aq (eX g.b.f z7=g'.from'.x))/\Aq z4/\Aq ((1:Int)=g'.from'.who))/\True)/\Aq (z16.meas g'<z16.meas g_1)); let z0:=(True/\True/\True/\True/\True/\True/\((True/\(Aq z9/\z36/\z37/\(Aq z4/\Aq (eX g.a.f z8=eX g.a.f z8))/\True)/\z31/\z12/\True)/\Aq (g_1.L.length<=z38))/\True/\True/\True/\True/\Aq z17/\True/\True/\Aq z17/\True/\True/\True/\Aq z17/\True/\Aq z15/\True/\z23/\True/\True/\∃ (g':CsG),Aq (z16.pre g')/\((z21/\(Aq ((Int.ofNat z11-Int.ofNat z32).toNat=z6*g.a.n-g'.i)/\∀ (i:Nat),i<z6*g.a.n-g'.i->((True/\Aq z4/\Aq ((g.a.f ((z20.toNat+i+g_1.i) / z6)).y=(g.a.f ((i+g'.i) / z6)).y))/\Aq z4/\Aq (eX g.a.f (z20.toNat+i+g_1.i)=eX g.a.f (i+g'.i)))/\Aq z4/\Aq (z5=z5))/\(Aq (z6*g.b.n-g_1.j=z6*g.b.n-g'.j)/\∀ (i:Nat),i<z6*g.b.n-g'.j->((True/\Aq z4/\Aq ((g.b.f ((i+g_1.j) / z6)).y=(g.b.f ((i+g'.j) / z6)).y))/\Aq z4/\Aq (eX g.b.f (i+g_1.j)=eX g.b.f (i+g'.j)))/\Aq z4/\Aq z25)/\Aq z9/\Aq z9/\Aq z9/\Aq (K z33 (odd g_1.j)=K (odd g'.i) (odd g'.j))/\True)/\((True/\Aq (z33=odd g'.i))/\Aq (odd g_1.j=odd g'.j))/\z31/\(Aq (z14.L.length=g'.L.length)/\∀ (i:Nat),i<g'.L.length->((True/\Aq z4/\Aq ((Rga.rI z14.L i).y=(Rga.rI g'.L i).y))/\Aq z4/\Aq ((Rga.rI z14.L i).x0=(Rga.rI g'.L i).x0))/\Aq z4/\Aq ((Rga.rI z14.L i).x1=(Rga.rI g'.L i).x1))/\(((True/\Aq z4/\Aq (z27.y=g'.from'.y))/\Aq z4/\Aq (eX g.a.f z8=g'.from'.x))/\Aq z4/\Aq (z5=g'.from'.who))/\True)/\Aq (z16.meas g'<z16.meas g_1)); z16.pre g_1->True/\True/\True/\True/\Aq (z34<=z39+z40/\z39+z40<=z35)/\True/\Br (decide (z5<z39+z40)) (True/\True/\True/\True/\True/\Br (decide (z40=z5)) (True/\True/\Aq z28/\True/\True/\Aq z18/\True/\True/\True/\Br z24 z0 z2) (True/\True/\True/\True/\Br (decide (z5<z39)) (True/\Aq z28/\True/\True/\True/\Aq z29/\True/\True/\Aq (z34<=z27.y-z26.y/\z27.y-z26.y<=z35)/\True/\Aq z28/\True/\True/\True/\Aq z29/\True/\True/\Aq (z34<=eX g.a.f z8-eX g.b.f z7/\eX g.a.f z8-eX g.b.f z7<=z35)/\True/\(((Aq (z6=z6)/\∀ (i:Nat),i<z6->True/\Aq z4/\Aq ((bif decide (i=z32) then eX g.a.f z8-eX g.b.f z7 else z27.y-z26.y)=bif decide (i=z32) then eX g.a.f z8-eX g.b.f z7 else z27.y-z26.y))/\True)/\Aq True)/\True/\True/\True/\Br (decide (orI (z27.y-z26.y) (eX g.a.f z8-eX g.b.f z7)<=z5)) (True/\Aq z28/\True/\True/\Aq z18/\True/\True/\True/\Br z24 z0 z2) (True/\Aq z29/\True/\True/\Aq z19/\True/\True/\True/\Br z24 z1 z3)) (True/\True/\True/\Aq z29/\True/\True/\Aq z19/\True/\True/\True/\Br z24 z1 z3))) (True/\True/\True/\True/\Aq (g_1.L.length=(ao0 K g).length)/\∀ (i:Nat),let z41:=(Rga.rI (ao0 K g) i); i<(ao0 K g).length->((True/\Aq z4/\Aq ((Rga.rI g_1.L i).y=z41.y))/\Aq z4/\Aq ((Rga.rI g_1.L i).x0=z41.x0))/\Aq z4/\Aq ((Rga.rI g_1.L i).x1=z41.x1))
theorem b24 (g:CbG) (K:Bool->Bool->Bool) (F:Nat) (hK:K false false=false) (hg:vld g.a.L/\vld g.b.L):cbB g K F:=by
 unfold cbB;simp only [cln];obtain ⟨va,vb⟩:=hg;have na:=ar9 va;have nb:=ar9 vb;rw [Rg.len] at na nb;refine ⟨by omega,by omega,⟨⟨0,0,⟨0,0,0⟩,[]⟩,bs4 g _,⟨⟨rfl,fun k _=>⟨rfl,rfl⟩⟩,⟨rfl,fun k _=>⟨rfl,rfl⟩⟩,hK.symm⟩,⟨rfl,rfl⟩,⟨rfl,fun k hk=>absurd hk (ln _)⟩,⟨rfl,rfl⟩,rfl⟩,fun s P=>?_⟩;have P:CbP g K s:=P;have p1:=P.hi;have p2:=P.hj;have p3:=ar9 P.hL;have Ai:Int.toNat 0+s.i=s.i:=lG _;have Aj:Int.toNat 0+s.j=s.j:=lG _;have r1:∀ (n:Nat),0<n->0<=Int.ofNat 1/\Int.ofNat 1<=Int.ofNat n/\Int.ofNat n<=Int.ofNat n/\Int.ofNat n<=(n:Int):=fun n hn=>⟨by decide,Int.ofNat_le.2 hn,xl _,xl _⟩
 have f0:((0:Int)<=0/\(0:Int)<((2:Nat):Int)):=by decide
 have f1:((0:Int)<=1/\(1:Int)<((2:Nat):Int)):=by decide
 refine ⟨by omega,fun hlt=>⟨fun hb0=>?_,fun hb0=>⟨fun ha0=>?_,fun ha0=>?_⟩⟩,fun hge=>?_⟩
 ·have hi:s.i<2*g.a.n:=by omega
  exact ⟨by omega,r1 _ (by omega),fun ho=>⟨by omega,f0,f0,f0,f1,tA (K:=K) va vb hK P hi (fun h=>absurd h (by omega)) ((addL s.L _).trans ((lm ho).symm.trans (by rw [Ai]; rfl)))⟩,
   fun hc=>⟨f0,f0,f0,f1,tA (K:=K) va vb hK P hi (fun h=>absurd h (by omega)) (lr (fun h=>Bool.noConfusion (hc.symm.trans h))).symm⟩⟩
 ·have hi:s.i<2*g.a.n:=by omega
  have hj:s.j<2*g.b.n:=by omega
  have b1:=a63 va hi;have b2:=a63 vb hj;have e1:(g.a.f (s.i / 2)).y=eY g.a.f s.i:=rfl;have e2:(g.b.f (s.j / 2)).y=eY g.b.f s.j:=rfl;have c1:(g.a.f ((Int.toNat 0+s.i) / 2)).y=eY g.a.f s.i:=by rw [Ai]; rfl
  have c2:(g.b.f ((Int.toNat 0+s.j) / 2)).y=eY g.b.f s.j:=by rw [Aj]; rfl
  have c3:eX g.a.f (Int.toNat 0+s.i)=eX g.a.f s.i:=by rw [Ai]
  have c4:eX g.b.f (Int.toNat 0+s.j)=eX g.b.f s.j:=by rw [Aj]
  have q1:(0:Int)<=0/\0<((2*g.a.n-s.i:Nat):Int):=by omega
  have q2:(0:Int)<=0/\0<((2*g.b.n-s.j:Nat):Int):=by omega
  refine ⟨q1,q2,by rw [c1,c2]; omega,q1,q2,by rw [c3,c4]; omega,fun hor=>?_,fun hor=>?_⟩
  ·rw [c1,c2,c3,c4,ck4] at hor;exact ⟨q1,r1 _ (by omega),fun ho=>⟨by omega,f0,f0,f0,f1,tA (K:=K) va vb hK P hi (fun _=>hor) ((addL s.L _).trans ((lm ho).symm.trans (by rw [Ai]; rfl)))⟩,
    fun hc=>⟨f0,f0,f0,f1,tA (K:=K) va vb hK P hi (fun _=>hor) (lr (fun h=>Bool.noConfusion (hc.symm.trans h))).symm⟩⟩
  ·rw [c1,c2,c3,c4,ck4] at hor;exact ⟨q2,r1 _ (by omega),fun ho=>⟨by omega,f1,f1,f0,f1,tB (K:=K) va vb hK P hj (fun _=>by omega) ((addL s.L _).trans ((lm ho).symm.trans (by rw [Aj]; rfl)))⟩,
    fun hc=>⟨f1,f1,f0,f1,tB (K:=K) va vb hK P hj (fun _=>by omega) (lr (fun h=>Bool.noConfusion (hc.symm.trans h))).symm⟩⟩
 ·have hj:s.j<2*g.b.n:=by omega
  exact ⟨by omega,r1 _ (by omega),fun ho=>⟨by omega,f1,f1,f0,f1,tB (K:=K) va vb hK P hj (fun h=>absurd h (by omega)) ((addL s.L _).trans ((lm ho).symm.trans (by rw [Aj]; rfl)))⟩,
   fun hc=>⟨f1,f1,f0,f1,tB (K:=K) va vb hK P hj (fun h=>absurd h (by omega)) (lr (fun h=>Bool.noConfusion (hc.symm.trans h))).symm⟩⟩
 ·have e:=b23 va vb hK P (by omega) (by omega);have e:ao0 K g=s.L:=e;rw [e];exact ⟨rfl,fun k _=>⟨⟨rfl,rfl⟩,rfl⟩⟩
def spI1:FSpec:=ab0 36 (γ:=Bool×Bool) (fun | [a,b]=>some (bg8 a,bg8 b) | _=>none) (fun g=>[.bool g.1,.bool g.2]) (fun _=>True) (fun g=> .bool (and g.1 g.2))
theorem b92:aa7 Tw.prog spI1:=by
 refine ssW (specs:=[]) trivial Tw.func36 (fun g=>A0) ?_;rintro ⟨a,b⟩ _;refine ad5 (B:=True/\True/\True/\Br a (True/\True/\True/\True/\Aq (b=(a&&b))) (True/\True/\True/\Aq (false=(a&&b)))) ?_;simp only [cln];cases a<;>cases b<;>decide
noncomputable def ch6:FSpec:=ab0 51 (γ:=CbG) (fun | [s,t,.fn _ _ _]=>some ⟨⟨aj5 s,rgD s⟩,⟨aj5 t,rgD t⟩⟩ | _=>none) (fun g=>[rgS g.a,rgS g.b,.fn 36 0 (lst [])]) (fun g=>vld g.a.L/\vld g.b.L) (fun g=>ax0 (ao0 and g))
theorem cl8:aa7 Tw.prog ch6:=by
 refine ssW (specs:=[bj0,aV0,giv spOr,spI1]) (⟨bq7,aN6,aH6 cl2,b92,trivial⟩) Tw.func51 (fun g=>(⟨[(5,.inv (a74 g and 36))],[(4,[.ownC 1 0 48 3]),(13,[.tmp 13])]⟩:Ann)) ?_;exact fun g hg=>ad5 (B:=cbB g and 36) (b24 g and 36 rfl hg)
def spM1:FSpec:=ab0 33 (γ:=Bool×Bool) (fun | [a,b]=>some (bg8 a,bg8 b) | _=>none) (fun g=>[.bool g.1,.bool g.2]) (fun _=>True) (fun g=> .bool (mn g.1 g.2))
theorem ok_M1:aa7 Tw.prog spM1:=by
 refine ssW (specs:=[]) trivial Tw.func33 (fun g=>A0) ?_;rintro ⟨a,b⟩ _;refine ad5 (B:=True/\True/\True/\Br a (True/\True/\True/\True/\True/\Aq ((!b)=mn a b)) (True/\True/\True/\Aq (false=mn a b))) ?_;simp only [cln];cases a<;>cases b<;>decide
noncomputable def ch5:FSpec:=ab0 51 (γ:=CbG) (fun | [s,t,.fn _ _ _]=>some ⟨⟨aj5 s,rgD s⟩,⟨aj5 t,rgD t⟩⟩ | _=>none) (fun g=>[rgS g.a,rgS g.b,.fn 33 0 (lst [])]) (fun g=>vld g.a.L/\vld g.b.L) (fun g=>ax0 (ao0 mn g))
theorem cl7:aa7 Tw.prog ch5:=by
 refine ssW (specs:=[bj0,aV0,giv spOr,spM1]) (⟨bq7,aN6,aH6 cl2,ok_M1,trivial⟩) Tw.func51 (fun g=>(⟨[(5,.inv (a74 g mn 33))],[(4,[.ownC 1 0 48 3]),(13,[.tmp 13])]⟩:Ann)) ?_;exact fun g hg=>ad5 (B:=cbB g mn 33) (b24 g mn 33 rfl hg)
end Rgb
namespace Rgc
open Go.RowKit Sx Num Aff Con Rga Rgl Rgm Rgn Rgb
def okP (s:SV):SV:= .tup 2 (lst [s,.int .i64 0])
theorem bnd {L:List Rn}(h:vld L):L.length<=4294967296:=lW (ar9 h) (by decide)
theorem bndg {g:Rg}(h:vld g.L):g.n<=4294967296:=Rg.len g▸bnd h
noncomputable def ch8:FSpec:=ab0 32 (γ:=CbG) (fun | [s,t,.fn _ _ _]=>some ⟨⟨aj5 s,rgD s⟩,⟨aj5 t,rgD t⟩⟩ | _=>none) (fun g=>[rgS g.a,rgS g.b,.fn 36 0 (lst [])]) (fun g=>vld g.a.L/\vld g.b.L) (fun g=>okP (ax0 (ao0 and g)))
theorem cm0:aa7 Tw.prog ch8:=by
 refine ssW (specs:=[aA0,ch6]) (⟨aA7,cl8,trivial⟩) Tw.func32 (fun g=>(⟨[(2,.rounds 3)],[]⟩:Ann)) ?_;rintro g ⟨va,vb⟩;refine ad5 (B:=let A:=Aq;let z6:=(1:Int);let z5:=(ao0 Bool.and g);let z4:=(0:Int);let z0:=(IntKind.i64=IntKind.i64);let q0:=fun p:Int=>A z0/\A (p=p);let z2:=(A (g.b.n=g.b.n)/\∀ i:Nat,i<g.b.n->((True/\q0 ((g.b.f i).y))/\q0 ((g.b.f i).x0))/\q0 ((g.b.f i).x1));let z1:=(A (g.a.n=g.a.n)/\∀ i:Nat,i<g.a.n->((True/\q0 ((g.a.f i).y))/\q0 ((g.a.f i).x0))/\q0 ((g.a.f i).x1));True/\True/\True/\True/\True/\True/\True/\A (z4<=z4/\z4<(↑(2:Nat):Int))/\True/\True/\((z1/\True)/\A (vld g.a.L/\g.a.n<=(4294967296:Nat)))/\True/\True/\True/\A ((-9223372036854775808:Int)<=z4+z6/\z4+z6<=(9223372036854775807:Int))/\True/\True/\A (z4<=z4+z6/\z4+z6<(↑(2:Nat):Int))/\True/\True/\((z2/\True)/\A (vld g.b.L/\g.b.n<=(4294967296:Nat)))/\True/\True/\True/\A ((-9223372036854775808:Int)<=z4+z6+z6/\z4+z6+z6<=(9223372036854775807:Int))/\True/\True/\True/\True/\True/\((z1/\z2/\(A ((36:Go.FuncId)=(36:Go.FuncId))/\True)/\True)/\A (vld g.a.L/\vld g.b.L))/\True/\True/\True/\(True/\A (z5.length=z5.length)/\∀ i:Nat,let z3:=(rI z5 i); i<z5.length->((True/\q0 z3.y)/\q0 z3.x0)/\q0 z3.x1)/\q0 z4) ?_;simp only [cln];have na:=bndg va;have nb:=bndg vb;repeat' (first | exact va | exact vb | apply And.intro)
 all_goals (first | decide | omega)
noncomputable def aM5:FSpec:=ab0 17 (γ:=CbG) (fun | [s,t]=>some ⟨⟨aj5 s,rgD s⟩,⟨aj5 t,rgD t⟩⟩ | _=>none) (fun g=>[rgS g.a,rgS g.b]) (fun g=>vld g.a.L/\vld g.b.L) (fun g=>okP (ax0 (ao0 and g)))
theorem bc5:aa7 Tw.prog aM5:=by
 refine ssW (specs:=[ch8]) (⟨cm0,trivial⟩) Tw.func17 (fun g=>A0) ?_;rintro g ⟨va,vb⟩;refine ad5 (B:=let A:=Aq;let z2:=(ao0 Bool.and g);let z0:=(IntKind.i64=IntKind.i64);let q0:=fun p:Int=>A z0/\A (p=p);True/\True/\True/\True/\(((A (g.a.n=g.a.n)/\∀ i:Nat,i<g.a.n->((True/\q0 ((g.a.f i).y))/\q0 ((g.a.f i).x0))/\q0 ((g.a.f i).x1))/\(A (g.b.n=g.b.n)/\∀ i:Nat,i<g.b.n->((True/\q0 ((g.b.f i).y))/\q0 ((g.b.f i).x0))/\q0 ((g.b.f i).x1))/\(A ((36:Nat)=(36:Go.FuncId))/\True)/\True)/\A (vld g.a.L/\vld g.b.L))/\True/\True/\True/\True/\True/\(True/\A (z2.length=z2.length)/\∀ i:Nat,let z1:=(rI z2 i); i<z2.length->((True/\q0 z1.y)/\q0 z1.x0)/\q0 z1.x1)/\q0 ((0:Int))) ?_;simp only [cln];exact ⟨va,vb⟩
noncomputable def ch7:FSpec:=ab0 32 (γ:=CbG) (fun | [s,t,.fn _ _ _]=>some ⟨⟨aj5 s,rgD s⟩,⟨aj5 t,rgD t⟩⟩ | _=>none) (fun g=>[rgS g.a,rgS g.b,.fn 33 0 (lst [])]) (fun g=>vld g.a.L/\vld g.b.L) (fun g=>okP (ax0 (ao0 mn g)))
theorem cl9:aa7 Tw.prog ch7:=by
 refine ssW (specs:=[aA0,ch5]) (⟨aA7,cl7,trivial⟩) Tw.func32 (fun g=>(⟨[(2,.rounds 3)],[]⟩:Ann)) ?_;rintro g ⟨va,vb⟩;refine ad5 (B:=let A:=Aq;let z6:=(1:Int);let z5:=(ao0 mn g);let z4:=(0:Int);let z0:=(IntKind.i64=IntKind.i64);let q0:=fun p:Int=>A z0/\A (p=p);let z2:=(A (g.b.n=g.b.n)/\∀ i:Nat,i<g.b.n->((True/\q0 ((g.b.f i).y))/\q0 ((g.b.f i).x0))/\q0 ((g.b.f i).x1));let z1:=(A (g.a.n=g.a.n)/\∀ i:Nat,i<g.a.n->((True/\q0 ((g.a.f i).y))/\q0 ((g.a.f i).x0))/\q0 ((g.a.f i).x1));True/\True/\True/\True/\True/\True/\True/\A (z4<=z4/\z4<(↑(2:Nat):Int))/\True/\True/\((z1/\True)/\A (vld g.a.L/\g.a.n<=(4294967296:Nat)))/\True/\True/\True/\A ((-9223372036854775808:Int)<=z4+z6/\z4+z6<=(9223372036854775807:Int))/\True/\True/\A (z4<=z4+z6/\z4+z6<(↑(2:Nat):Int))/\True/\True/\((z2/\True)/\A (vld g.b.L/\g.b.n<=(4294967296:Nat)))/\True/\True/\True/\A ((-9223372036854775808:Int)<=z4+z6+z6/\z4+z6+z6<=(9223372036854775807:Int))/\True/\True/\True/\True/\True/\((z1/\z2/\(A ((33:Go.FuncId)=(33:Go.FuncId))/\True)/\True)/\A (vld g.a.L/\vld g.b.L))/\True/\True/\True/\(True/\A (z5.length=z5.length)/\∀ i:Nat,let z3:=(rI z5 i); i<z5.length->((True/\q0 z3.y)/\q0 z3.x0)/\q0 z3.x1)/\q0 z4) ?_;simp only [cln];have na:=bndg va;have nb:=bndg vb;repeat' (first | exact va | exact vb | apply And.intro)
 all_goals (first | decide | omega)
noncomputable def bE3:FSpec:=ab0 15 (γ:=CbG) (fun | [s,t]=>some ⟨⟨aj5 s,rgD s⟩,⟨aj5 t,rgD t⟩⟩ | _=>none) (fun g=>[rgS g.a,rgS g.b]) (fun g=>vld g.a.L/\vld g.b.L) (fun g=>okP (ax0 (ao0 mn g)))
theorem bS6:aa7 Tw.prog bE3:=by
 refine ssW (specs:=[ch7]) (⟨cl9,trivial⟩) Tw.func15 (fun g=>A0) ?_;rintro g ⟨va,vb⟩;refine ad5 (B:=let A:=Aq;let z2:=(ao0 mn g);let z0:=(IntKind.i64=IntKind.i64);let q0:=fun p:Int=>A z0/\A (p=p);True/\True/\True/\True/\(((A (g.a.n=g.a.n)/\∀ i:Nat,i<g.a.n->((True/\q0 ((g.a.f i).y))/\q0 ((g.a.f i).x0))/\q0 ((g.a.f i).x1))/\(A (g.b.n=g.b.n)/\∀ i:Nat,i<g.b.n->((True/\q0 ((g.b.f i).y))/\q0 ((g.b.f i).x0))/\q0 ((g.b.f i).x1))/\(A ((33:Nat)=(33:Go.FuncId))/\True)/\True)/\A (vld g.a.L/\vld g.b.L))/\True/\True/\True/\True/\True/\(True/\A (z2.length=z2.length)/\∀ i:Nat,let z1:=(rI z2 i); i<z2.length->((True/\q0 z1.y)/\q0 z1.x0)/\q0 z1.x1)/\q0 ((0:Int))) ?_;simp only [cln];exact ⟨va,vb⟩
structure EqG where
 a:Rg
 b:Rg
def EqG.ok (g:EqG):Prop:=vld g.a.L/\g.a.L=g.b.L
end Rgc
namespace Rgd
open Go.RowKit Sx Num Aff Con Rga Rgl Rgm Rgn Rgb Rgc
structure ShG where
 g:Rg
 dx:Int
 dy:Int
def ShG.f (h:ShG):Nat->Rn:=fun i=>shR h.dx h.dy (h.g.f i)
structure ShG.ok (h:ShG):Prop where
 v:vld h.g.L
 x : -16384<=h.dx/\h.dx<=16384
 y : -16384<=h.dy/\h.dy<=16384
 r:∀ i,i<h.g.n->okR (h.f i)
def ShG.L (h:ShG):List Rn:=Lf h.f h.g.n
structure ReG where
 x0:Int
 y0:Int
 x1:Int
 y1:Int
def ReG.f (h:ReG):Nat->Rn:=fun k=>⟨h.y0+k,h.x0,h.x1⟩
def ReG.n (h:ReG):Nat:=(h.y1-h.y0).toNat
structure ReG.ok (h:ReG):Prop where
 x0 : -8192<=h.x0/\h.x0<=8192
 y0 : -8192<=h.y0/\h.y0<=8192
 x1 : -8192<=h.x1/\h.x1<=8192
 y1 : -8192<=h.y1/\h.y1<=8192
 x:h.x0<h.x1
 y:h.y0<=h.y1
def bv8 (h:ReG):Inv:=⟨Nat,fun i=>h.y0+i<=h.y1,fun i=>⟨[(0,.int .i64 h.x0),(2,.int .i64 h.x1),(3,.int .i64 h.y1),(10,.own 0 0),(11,.int .i64 (h.y0+i))],
  [.cells 1 (lst [.osl 1 0]) 51,.row 0 i 3 (fun k=>lst (rnL (h.f k))) 48]⟩,fun i=>h.n-i⟩
def bX5:FSpec:=ab0 9 (γ:=ReG) (fun | [.int _ x0,.int _ y0,.int _ x1,.int _ y1]=>some ⟨x0,y0,x1,y1⟩ | _=>none) (fun h=>[.int .i64 h.x0,.int .i64 h.y0,.int .i64 h.x1,.int .i64 h.y1]) ReG.ok (fun h=>okP (ax0 (Lf h.f h.n)))
theorem b88:aa7 Tw.prog bX5:=by
 refine ssW (specs:=[aZ6,aV0]) (⟨bc4,aN6,trivial⟩) Tw.func9 (fun g=>(⟨[(7,.inv (bv8 g))],[(6,[.ownC 0 0 48 3])]⟩:Ann)) ?_;rintro g hg;refine ad5 (B:=let T3:=fun p:Prop=>True/\True/\True/\p;let T4:=fun p:Prop=>True/\True/\True/\True/\p;let K:=Br;let A:=Aq;let z9:=((0:Nat)=(0:Nat));let z7:=((3:Int)=(0:Int));let z5:=(Lf g.f g.n);let z2:=(True/\A (z5.length=(0:Nat)));let z0:=(IntKind.i64=IntKind.i64);let q0:=fun p:Int=>A z0/\A (p=p);let z6:=(q0 g.y1);let z4:=(q0 g.x1);let z3:=(q0 g.x0);T3 (((z3/\True)/\A True)/\True/\True/\K (!(decide ((-8192:Int)<=g.x0)&&decide (g.x0<=(8192:Int)))) (T4 (T4 (z2/\A z0/\A z7))) (True/\(((q0 g.y0)/\True)/\A True)/\T3 (K (!(decide ((-8192:Int)<=g.y0)&&decide (g.y0<=(8192:Int)))) (T4 (True/\True/\z2/\A z0/\A z7)) (True/\((z4/\True)/\A True)/\T3 (K (!(decide ((-8192:Int)<=g.x1)&&decide (g.x1<=(8192:Int)))) (T4 (z2/\A z0/\A z7)) (True/\((z6/\True)/\A True)/\True/\True/\K (!(decide ((-8192:Int)<=g.y1)&&decide (g.y1<=(8192:Int)))) (T3 (z2/\A z0/\A z7)) (T4 (K (decide (g.x1<g.x0)) (T4 (z2/\A z0/\A ((18:Int)=(0:Int)))) (T4 (K (decide (g.y1<g.y0)) (T3 (z2/\A z0/\A ((18:Int)=(0:Int)))) (T3 ((∃ g_1:Nat,A ((bv8 g).pre g_1)/\(z3/\z4/\z6/\A z9/\(A z0/\A (g.y0=g.y0+(↑g_1:Int)))/\True)/\(True/\True)/\(A ((0:Nat)=g_1)/\∀ i:Nat,i<g_1->((True/\False)/\False)/\False)/\True)/\∀ g_1:Nat,let z8:=(↑g_1:Int);let z1:=(AdG.mk g_1 (fun (i:Nat)=>Rn.mk (g.y0+(↑i:Int)) g.x0 g.x1) (Rn.mk (g.y0+z8) g.x0 g.x1)); (bv8 g).pre g_1->T3 (K (decide (g.y0+z8<g.y1)) (T3 (((True/\(A z9/\(q0 (g.y0+z8))/\z3/\z4/\True)/\(True/\True)/\(A (g_1=g_1)/\∀ i:Nat,i<g_1->((True/\q0 (g.y0+(↑i:Int)))/\q0 g.x0)/\q0 g.x1)/\True)/\A (g_1<=(4294967296:Nat)))/\True/\A ((-9223372036854775808:Int)<=g.y0+z8+(1:Int)/\g.y0+z8+(1:Int)<=(9223372036854775807:Int))/\True/\∃ (g':Nat),A ((bv8 g).pre g')/\((z3/\z4/\z6/\A z9/\(A z0/\A (g.y0+z8+(1:Int)=g.y0+(↑g':Int)))/\True)/\(True/\True)/\(A (z1.L.length=g')/\∀ i:Nat,i<g'->((True/\A z0/\A ((rI z1.L i).y=g.y0+(↑i:Int)))/\A z0/\A ((rI z1.L i).x0=g.x0))/\A z0/\A ((rI z1.L i).x1=g.x1))/\True)/\A ((bv8 g).meas g'<(bv8 g).meas g_1))) (T4 (True/\(True/\A (g_1=z5.length)/\∀ i:Nat,i<z5.length->((True/\A z0/\A (g.y0+(↑i:Int)=(rI z5 i).y))/\A z0/\A (g.x0=(rI z5 i).x0))/\A z0/\A (g.x1=(rI z5 i).x1))/\q0 ((0:Int)))))))))))))))))) ?_;simp only [cln];obtain ⟨⟨a1,a2⟩,⟨b1,b2⟩,⟨c1,c2⟩,⟨d1,d2⟩,hx,hy⟩:=hg;rw [lj a1,lj a2,lj b1,lj b2,lj c1,lj c2,lj d1,lj d2];refine ⟨fun h=>absurd h (by decide),fun _=>⟨fun h=>absurd h (by decide),fun _=>⟨fun h=>absurd h (by decide),fun _=>⟨fun h=>absurd h (by decide),fun _=>⟨fun h=>by omega,fun _=>⟨fun h=>by omega,fun _=>⟨⟨0,by show g.y0+0<=g.y1; omega,by omega,rfl,fun k hk=>absurd hk (ln _)⟩,fun i hi=>⟨fun hlt=>?_,fun hge=>?_⟩⟩⟩⟩⟩⟩⟩⟩
 ·have hi:g.y0+i<=g.y1:=hi;have e:AdG.L ⟨i,fun i=>⟨g.y0+i,g.x0,g.x1⟩,⟨g.y0+i,g.x0,g.x1⟩⟩=Lf g.f (i+1):=by
   refine bV8 (f:=g.f) (n:=i) hx (fun h0=> .inl ?_);show g.y0+((i-1:Nat):Int)<g.y0+i;omega
  refine ⟨by omega,by omega,i+1,?_,⟨by omega,?_,fun k hk=>?_⟩,?_⟩
  ·show g.y0+((i+1:Nat):Int)<=g.y1;omega
  ·rw [e,aw3]
  ·rw [e,aX5 g.f hk];exact ⟨⟨rfl,rfl⟩,rfl⟩
  ·show (g.y1-g.y0).toNat-(i+1)<(g.y1-g.y0).toNat-i;omega
 ·have hi:g.y0+i<=g.y1:=hi;have e:i=g.n:=by unfold ReG.n; omega
  subst e;rw [aw3];refine ⟨rfl,fun k hk=>?_⟩;rw [aX5 g.f hk];exact ⟨⟨rfl,rfl⟩,rfl⟩
abbrev lA:List Rn:=[⟨0,0,2⟩,⟨1,0,2⟩]
theorem eA:Lf (ReG.f ⟨0,0,2,2⟩) (ReG.n ⟨0,0,2,2⟩)=lA:=rfl
end Rgd
section
open Go Go.Proofs Go.Shelf
def Tw.bj1:Go.Shelf.Ren:=⟨fun | 6=>76 | 15=>73 | 14=>94 | 28=>92 | 29=>93 | 20=>100 | 21=>101 | 22=>102 | 23=>103 | 24=>104 | 25=>105 | 26=>106 | 27=>107 | 46=>109 | 47=>96 | 48=>97 | 49=>110 | 50=>111 | 57=>112 | n=>n,fun | 22=>33 | 24=>48 | 25=>126 | 3=>3 | 39=>112 | 0=>0 | 53=>86 | 55=>83 | 4=>4 | 46=>140 | 45=>139 | 50=>100 | 5=>5 | 9=>9 | 66=>148 | 70=>151 | 76=>158 | 77=>159 | n=>n,fun | n=>n⟩
theorem Tw.bj2:SlLaysF0.n6 Tw.prog Tw.bj1:={
  mixed:=by kernel_rfl
  f6:=⟨Tryz.f76.name,by decide,Tw.func76.trans (congrArg some (by kernel_rfl))⟩
  f14:=⟨Tryz.f94.name,by decide,Tw.func94.trans (congrArg some (by kernel_rfl))⟩
  f15:=Tw.func73.trans (congrArg some (by kernel_rfl))
  f20:=⟨Tryz.f100.name,by decide,Tw.func100.trans (congrArg some (by kernel_rfl))⟩
  f21:=⟨Tryz.f101.name,by decide,Tw.func101.trans (congrArg some (by kernel_rfl))⟩
  f22:=⟨Tryz.f102.name,by decide,Tw.func102.trans (congrArg some (by kernel_rfl))⟩
  f23:=⟨Tryz.f103.name,by decide,Tw.func103.trans (congrArg some (by kernel_rfl))⟩
  f24:=⟨Tryz.f104.name,by decide,Tw.func104.trans (congrArg some (by kernel_rfl))⟩
  f25:=⟨Tryz.f105.name,by decide,Tw.func105.trans (congrArg some (by kernel_rfl))⟩
  f26:=⟨Tryz.f106.name,by decide,Tw.func106.trans (congrArg some (by kernel_rfl))⟩
  f27:=⟨Tryz.f107.name,by decide,Tw.func107.trans (congrArg some (by kernel_rfl))⟩
  f28:=Tw.func92.trans (congrArg some (by kernel_rfl))
  f29:=Tw.func93.trans (congrArg some (by kernel_rfl))
  f46:=⟨Tryz.f109.name,by decide,Tw.func109.trans (congrArg some (by kernel_rfl))⟩
  f47:=Tw.func96.trans (congrArg some (by kernel_rfl))
  f48:=Tw.func97.trans (congrArg some (by kernel_rfl))
  f49:=⟨Tryz.f110.name,by decide,Tw.func110.trans (congrArg some (by kernel_rfl))⟩
  f50:=⟨Tryz.f111.name,by decide,Tw.func111.trans (congrArg some (by kernel_rfl))⟩
  f57:=⟨Tryz.f112.name,by decide,Tw.func112.trans (congrArg some (by kernel_rfl))⟩
  t0:=Tw.underlying0
  a0:=Tw.isAgg0
  z0:=Tw.sizeOf0
  v0:=Tw.zeroValue0
  t3:=Tw.underlying3
  a3:=Tw.isAgg3
  z3:=Tw.sizeOf3
  v3:=Tw.zeroValue3
  t4:=Tw.underlying4
  a4:=Tw.isAgg4
  z4:=Tw.sizeOf4
  v4:=Tw.zeroValue4
  t5:=Tw.underlying5
  a5:=Tw.isAgg5
  z5:=Tw.sizeOf5
  v5:=Tw.zeroValue5
  t9:=Tw.underlying9
  a9:=Tw.isAgg9
  z9:=Tw.sizeOf9
  v9:=Tw.zeroValue9
  t22:=Tw.underlying33
  a22:=Tw.isAgg33
  z22:=Tw.sizeOf33
  v22:=Tw.zeroValue33
  t25:=Tw.underlying126
  a25:=Tw.isAgg126
  z25:=Tw.sizeOf126
  v25:=Tw.zeroValue126
  t39:=Tw.underlying112
  a39:=Tw.isAgg112
  z39:=Tw.sizeOf112
  v39:=Tw.zeroValue112
  t45:=Tw.underlying139
  a45:=Tw.isAgg139
  z45:=Tw.sizeOf139
  v45:=Tw.zeroValue139
  t46:=Tw.underlying140
  a46:=Tw.isAgg140
  z46:=Tw.sizeOf140
  v46:=Tw.zeroValue140
  t50:=Tw.underlying100
  a50:=Tw.isAgg100
  z50:=Tw.sizeOf100
  v50:=Tw.zeroValue100
  t53:=Tw.underlying86
  a53:=Tw.isAgg86
  z53:=Tw.sizeOf86
  v53:=Tw.zeroValue86
  t55:=Tw.underlying83
  a55:=Tw.isAgg83
  z55:=Tw.sizeOf83
  v55:=Tw.zeroValue83
  t66:=Tw.underlying148
  a66:=Tw.isAgg148
  z66:=Tw.sizeOf148
  v66:=Tw.zeroValue148
  t70:=Tw.underlying151
  a70:=Tw.isAgg151
  z70:=Tw.sizeOf151
  v70:=Tw.zeroValue151
  t76:=Tw.underlying158
  a76:=Tw.isAgg158
  z76:=Tw.sizeOf158
  v76:=Tw.zeroValue158
  t77:=Tw.underlying159
  a77:=Tw.isAgg159
  z77:=Tw.sizeOf159
  v77:=Tw.zeroValue159 }
end
namespace Rgf
open Go.Shelf Go.RowKit Go.Lib Go.Sort Sx Num Rga Rgl Rgm Rgn Rge
theorem aU9 {P:Program}{f:FuncId}(hent:∀ args w,(callFunc f args).run P w = .ok (.enter f args) w)
  {paths:List NP}{γ:Type}{dec:List SV->List SO->Option γ}{args:γ->List SV}{objs:γ->List SO}{pre:γ->Prop}{res:γ->SV}{post:γ->List SO}
  (h:∀ g,pre g->∀ (vals:Array Value) (w:World) (X:Fr) (E:Env),(∀ k,X.nm k≠none->k<paths.length)->Rep w X (objs g) E w->vals.size=(args g).length->
   (∀ i,i<(args g).length->R w (Xo X E (objs g)) E ((args g).getD i .any) (vals.getD i undef))->
   Calls P f vals w fun e w'=>∃ v Es,e = .returned v/\Rep w X (post g) Es w'/\R w' (Xo X Es (post g)) Es (res g) v):aa7 P (af2 f paths dec args objs pre res post):=by
 refine ⟨hent,fun l H HF nm y he hns hrun=>?_,fun l H nm y hrun hask w0 X0 E w hrep hfree vals ha=>?_⟩
 ·simp only [af2] at hrun ⊢;split at hrun
  case h_2=>cases hrun
  rename_i ks hks;split at hrun
  case h_2=>cases hrun
  rename_i hnd;simp only [lu] at hnd;rw [ax4 he paths [] ks hks];simp only [aV5 he hnd.2,hnd.1,hnd.2,Bool.and_self];exact hrun
 ·simp only [af2] at hrun;split at hrun
  case h_2=>cases hrun
  rename_i ks hks;split at hrun
  case h_2=>cases hrun
  rename_i hnd;simp only [lu] at hnd;obtain ⟨hn,hal⟩:=hnd;split at hrun
  case h_2=>cases hrun
  rename_i g hdec;cases hrun;obtain ⟨⟨hle,⟨hpre⟩⟩,hholes⟩:=az0 hask;obtain ⟨hkn,hkl⟩:=aq6 hrep ha paths [] ks (fun k hk=>by cases hk) (aO9 hholes) hks;have hkl':ks.length=paths.length:=by simpa using hkl
  unfold cd6 at hle;split at hle
  case h_2=>exact hle.elim
  rename_i hll;have hll':=lJ hll;rw [lX] at hll';obtain ⟨hs,hxs⟩:=hrep.sml hn hal;have hv:=hrep.aX7 hal;have hnm:∀ k,(smlF X0 H E ks).nm k≠none->k<paths.length:=fun k hk=>by
   cases he:smlE E ks k with
   | none=>exact absurd he hk
   | some e=>
    obtain ⟨k',hk',_⟩:=an0 he;have:=(lT.1 hk').1
    omega
  have hT:=al8 (args g).length vals (l.map (sml (aa4 H ks) ks)) w (Xo (smlF X0 H E ks) (smlE E ks) ((aa4 H ks).map (smlO (aa4 H ks) ks))) (smlE E ks) (by rw [ha.1,lX]) (by rw [lX,hll']; exact lf _) (fun i hi=>by
   rw [lX] at hi;have e1:(l.map (sml (aa4 H ks) ks)).getD i .any=sml (aa4 H ks) ks (l.getD i .any):=by
    rw [la,lV,la,lw hi]; rfl
   rw [e1];exact bh4 hxs hv (ha.2 i hi))
  have hvs:vals.size=(args g).length:=by rw [ha.1,hll']
  have hst:StR w (smlF X0 H E ks) (args g).length ⟨ar4 0 (l.map (sml (aa4 H ks) ks)),(aa4 H ks).map (smlO (aa4 H ks) ks)⟩ ⟨vals++Array.replicate ((args g).length-vals.size) undef,[]⟩ w:=⟨smlE E ks,hs,hT.1,ay7.nil _ _ _,hT.2⟩
  have hst2:=hst.le (m:=((aa4 H ks).map (smlO (aa4 H ks) ks)).length) (fun k hk=>by rw [lX,aa4,lX,hkl']; exact hnm k hk) hle.get.1 hle.get.2;obtain ⟨E2,hrep2,hsz2,_,hT2⟩:=hst2;refine (h g hpre vals w (smlF X0 H E ks) E2 hnm hrep2 hvs (fun i hi=>?_)).mono ?_
  ·have:=hT2 i hi
   rw [aE4 _ _ _ (lC _),lab] at this;rw [hvs,uy] at this;simpa using this
  ·rintro e w' ⟨v,Es,rfl,h3,h4⟩;exact ⟨v,rfl,Goes.bZ6 hrep hn hkn hal h3 h4⟩
instance:Inhabited Rn:=⟨⟨0,0,0⟩⟩
def cl (v:Int):Int:=if v < -8192 then -8192 else if 8192<v then 8192 else v
theorem ar3 {v:Int}(h1 : -8192<=v) (h2:v<=8192):cl v=v:=by
 unfold cl;rw [lr (by omega),lr (by omega)]
theorem cl_b (v:Int) : -8192<=cl v/\cl v<=8192:=by
 unfold cl;split
 ·omega
 ·split<;>omega
def enR (r:Rn):List Value:=[.int .i64 (cl r.y),.int .i64 (cl r.x0),.int .i64 (cl r.x1)]
def cfR (x y:Rn):Int:=orI (cl x.y-cl y.y) (cl x.x0-cl y.x0)
theorem lt_iff (x y:Rn):ltOf cfR x y=true<->(cl x.y<cl y.y\/(cl x.y=cl y.y/\cl x.x0<cl y.x0)):=by
 unfold ltOf cfR orI;rw [decide_eq_true_iff];split<;>omega
theorem at0 (x y:Rn):ltOf cfR x y=false<->¬ (cl x.y<cl y.y\/(cl x.y=cl y.y/\cl x.x0<cl y.x0)):=by
 rw [<-lt_iff,uk]
theorem swo:SWO (ltOf cfR) where
 irrefl x:=by rw [at0]; omega
 trans x y z h1 h2:=by rw [lt_iff] at *; omega
 ntrans x y z h1 h2:=by rw [at0] at *; omega
theorem bm6 (blk off sz:Nat) (w:World):CmpLays Tw.prog 77 #[] enR 3 cfR blk off sz w:=fun _ _ _ _ x y=>by
 have a1:=cl_b x.y; have a2:=cl_b y.y; have a3:=cl_b x.x0; have a4:=cl_b y.x0;exact a68 (cl x.y) (cl x.x0) (cl x.x1) (cl y.y) (cl y.x0) (cl y.x1) _ (by omega) (by omega)
def srtA (d:Array Rn):Array Rn:=pdq (ltOf cfR) d 0 d.size (Lib.bitLen d.size) true true
def srt (g:Rg):List Rn:=(srtA g.L.toArray).toList
theorem ag3 (d:Array Rn):PermIn 0 d.size d (srtA d)/\SortedIn (ltOf cfR) 0 d.size (srtA d):=
 pdq_sorts (ltOf cfR) swo d 0 d.size (Lib.bitLen d.size) true true (lC _) (lf _) (Or.inl rfl)
theorem aq4 (g:Rg):(srt g).length=g.n:=by
 have:=(ag3 g.L.toArray).1.1
 unfold srt;rw [lz,this,xu,Rg.len]
theorem al0 (g:Rg):(srt g).Perm g.L:=by
 have h:=(ag3 g.L.toArray).1;have h2:=h.2.2;have e1:((srtA g.L.toArray).extract 0 g.L.toArray.size)=srtA g.L.toArray:=by rw [<-h.1]; simp
 have e2:(g.L.toArray.extract 0 g.L.toArray.size)=g.L.toArray:=by simp
 rw [e1,e2] at h2;unfold srt;simpa using h2
theorem au3 (g:Rg) {i j:Nat}(hij:i<j) (hj:j<g.n):ltOf cfR (rI (srt g) j) (rI (srt g) i)=false:=by
 have h:=(ag3 g.L.toArray).2 i j (lC _) hij (by rw [xu,Rg.len]; exact hj);have hs:(srtA g.L.toArray).size=g.n:=by rw [(ag3 g.L.toArray).1.1,xu,Rg.len]
 have e:∀ k,k<g.n->rI (srt g) k=(srtA g.L.toArray)[k]!:=fun k hk=>by
  unfold rI srt;rw [getElem!_pos _ k (by omega),la,lw (by rw [lz]; omega)];simp
 rw [e i (by omega),e j hj];exact h
theorem aA2 {w w':World}{X:Fr}{E:Env}{n:Nat}{g g':Nat->Nat->SV}{T:TypeId}{v:Value}{us:Nat->Option Nat}(h:Rep w X [.row 0 n 3 g T] E w) (he:E 0=some (.slc 0 v us))
  (hos:w'.os=w.os) (htp:w'.tape=w.tape) (hout:w'.output=w.output) (hsz:w.heap.size<=w'.heap.size)
  (hblk:∀ k,k<w.heap.size->(∀ b,holds (.slc 0 v us) (.row 0 n 3 g T) b->k≠b)->w'.heap[k]?=w.heap[k]?)
  (hok:∃ xs,ah4 w' T 3 v n xs/\∀ i j,i<n->j<3->ab1 (xs.getD (i*3+j) undef)/\∀ X',R w' X' E0 (g' i j) (xs.getD (i*3+j) undef)) :
  Rep w X [.row 0 n 3 g' T] E w':=by
 have hd:∀ k e,E k=some e->k=0/\e = .slc 0 v us:=fun k e hk=>by
  have h1:=h.dom k e hk;have h0:k=0:=by simp at h1; omega
  subst h0;rw [he] at hk;exact ⟨rfl,(sj hk).symm⟩
 have hh:∀ b,holds (.slc 0 v us) (.row 0 n 3 g' T) b->holds (.slc 0 v us) (.row 0 n 3 g T) b:=fun b hb=>hb
 refine ⟨⟨hos,htp,hout,hsz,fun k hk hdk=>hblk k hk (fun b hb hkb=>?_)⟩,h.x0,h.nm,h.dom,fun k e hk=>?_,fun k e b hk hb=>?_,fun k k' e e' b hk hk' hb hb'=>?_⟩
 ·rcases h.low 0 _ b he hb with h1 | h1
  ·omega
  ·exact hdk (hkb▸h1)
 ·obtain ⟨rfl,rfl⟩:=hd k e hk;obtain ⟨xs,h1,h2⟩:=hok;exact ⟨rfl,xs,h1,fun i j hi hj=>⟨(h2 i j hi hj).1,(h2 i j hi hj).2 _⟩⟩
 ·obtain ⟨rfl,rfl⟩:=hd k e hk;exact h.low 0 _ b he (hh b hb)
 ·rw [(hd k e hk).1,(hd k' e' hk').1]
theorem aD7 {oo:Nat}{w:World}{b:Nat}{cur:Array Value}{T:TypeId}(hb:w.heap[b]?=some (.cells cur T (0,0))) (m:Nat) (d:Array Rn) (os:Array Obj) :
  (sortWorldK enR 3 w b oo m d os).heap[b]?=some (.cells (putCells id oo (flatK enR 3 d) cur) T (0,0)):=by
 have hlt:b<w.heap.size:=lt_of_block hb;show ((w.heap.modify b (onCells (putCells id oo (flatK enR 3 d))))++os)[b]?=_;rw [xj (by rw [ut]; exact hlt),ue,lm rfl,hb];rfl
theorem aD6 {oo:Nat}{w:World}{b k:Nat}(hk:k<w.heap.size) (hne:k≠b) (m:Nat) (d:Array Rn) (os:Array Obj):(sortWorldK enR 3 w b oo m d os).heap[k]?=w.heap[k]?:=by
 show ((w.heap.modify b (onCells (putCells id oo (flatK enR 3 d))))++os)[k]?=_;rw [xj (by rw [ut]; exact hk),ue,lr (xE hne)]
theorem aM6 {oo:Nat}(w:World) (b m:Nat) (d:Array Rn) (os:Array Obj):w.heap.size<=(sortWorldK enR 3 w b oo m d os).heap.size:=by
 show _<=((w.heap.modify b (onCells (putCells id oo (flatK enR 3 d))))++os).size;rw [Array.size_append,ut];exact uM _ _
theorem aA3 {r:Rn}{j:Nat}(hj:j<3) (P:SV->Value->Prop) (h0:P (.int .i64 r.y) (.int .i64 r.y)) (h1:P (.int .i64 r.x0) (.int .i64 r.x0)) (h2:P (.int .i64 r.x1) (.int .i64 r.x1)) (ok:okR r):P (lst (rnL r) j) ((enR r)[j]!):=by
 obtain ⟨⟨⟨a1,a2⟩,⟨a3,a4⟩,a5,a6⟩,a7⟩:=ok;unfold enR;rw [ar3 a1 (by omega),ar3 a3 a4,ar3 a5 a6];match j,hj with
 | 0,_=>exact h0
 | 1,_=>exact h1
 | 2,_=>exact h2
def soD:List SV->List SO->Option Rg
 | [_,.fn _ _ _],[.row _ n _ g _]=>some ⟨n,fun i=>rnD (g i)⟩
 | _,_=>none
def rowS (ver:Nat) (n:Nat) (f:Nat->Rn):SO:= .row ver n 3 (fun i=>lst (rnL (f i))) 48
def ba9:FSpec:=af2 76 [.arg 0] soD (fun _=>[.osl 0 0,.fn 77 0 (lst [])]) (fun g=>[rowS 0 g.n g.f]) (fun g=>(∀ i,i<g.n->okR (g.f i))/\g.n<=4294967296) (fun _=> .tup 0 (lst [])) (fun g=>[rowS 0 g.n (rI (srt g))])
theorem bj9:aa7 Tw.prog ba9:=by
 refine aU9 (enters_of Tw.func76 (by kernel_rfl) rfl) (fun g hg vals w X E hnm hrep hsz hr=>?_);obtain ⟨hok,hn⟩:=hg;have h0:=hr 0 (by show 0<2; decide);have h1:=hr 1 (by show 1<2; decide);obtain ⟨v0,v1,rfl⟩:∃ v0 v1,vals = #[v0,v1]:=by
  have hs:vals.size=2:=hsz;exact ⟨vals[0],vals[1],by
   apply Array.ext
   ·exact hs
   ·intro i hi1 hi2;have:i=0\/i=1:=by omega
    rcases this with rfl | rfl<;>rfl⟩
 have h0:R w (Xo X E [rowS 0 g.n g.f]) E (.osl 0 0) v0:=h0;have h1:R w (Xo X E [rowS 0 g.n g.f]) E (.fn 77 0 (lst [])) v1:=h1;have hv1:v1 = .func (.func 77) #[] #[]:=by
  cases h1 with
  | fn hs hr=>rw [xW.1 hs]
 subst hv1;obtain ⟨us,he⟩:∃ us,E 0=some (.slc 0 v0 us):=by
  cases h0 with
  | osl he _=>exact ⟨_,he⟩
  | oslOld he hl _=>
   have:=(hrep.ok 0 _ he).1
   omega
 obtain ⟨_,xs,hown,hxs⟩:=hrep.ok 0 _ he;have rtup:∀ (w':World) (X':Nat->Prop) (E':Env),R w' X' E' (.tup 0 (lst [])) (.tuple #[]):=fun _ _ _=> .tup rfl (fun i hi=>absurd hi (ln _))
 rcases hown with ⟨a,rfl,hz,rfl⟩ | ⟨b,oo,cap,cur,rfl,hb,hlc,hcap,hcs,htake,hxl⟩
 ·refine (AnyF.slices_SortFunc_none Tw.bj2 a 0 (.func (.func 77) #[] #[]) w).mono ?_;rintro e w' ⟨rfl,rfl⟩;refine ⟨.tuple #[],E,rfl,aA2 hrep he rfl rfl rfl (lf _) (fun _ _ _=>rfl) ⟨[],.inl ⟨a,rfl,hz,rfl⟩,fun i j hi=>?_⟩,rtup _ _ _⟩;rw [hz] at hi;exact absurd hi (ln _)
 ·have hd:g.L.toArray.size=g.n:=by rw [xu,Rg.len]
  have gL:∀ i,i<g.n->(g.L.toArray)[i]! = g.f i:=fun i hi=>by
   rw [getElem!_pos _ i (by omega)];simp [Rg.L]
  have aq9:∀ j,j<g.n*3->cur[oo+j]?=some ((flatK enR 3 g.L.toArray)[j]!):=fun j hj=>by
   have hij:j / 3*3+j % 3=j:=by omega
   have hi:j / 3<g.n:=by omega
   have hj3:j % 3<3:=by omega
   obtain ⟨_,hR⟩:=hxs (j / 3) (j % 3) hi hj3;rw [hij] at hR;have ex:xs.getD j undef=(cur[oo+j]?).getD undef:=by
    rw [<-htake,la,uh hj,xv];simp
   have hlt:oo+j<cur.size:=by rw [hcs]; have:=lk 3 hlc; omega
   rw [ex] at hR;rw [lD hlt] at hR ⊢;rw [get_flatK _ _ _ _ (by rw [hd]; exact hj),gL _ hi];congr 1;refine aA3 (P:=fun s u=>R w (Xo X E [rowS 0 g.n g.f]) E0 s cur[oo+j]->cur[oo+j]=u) hj3 ?_ ?_ ?_ (hok _ hi) hR
   ·intro h; exact ah2 h
   ·intro h; exact ah2 h
   ·intro h; exact ah2 h
  have hH:HoldsK enR 3 w b oo g.L.toArray:=fun j hj=>by
   rw [size_flatK,hd] at hj;have hc:=aq9 j hj;refine ⟨?_,?_⟩
   ·unfold World.cell?;rw [hb];exact hc
   ·unfold World.frozen?;rw [hb];simp
  have hcon:=AnyQ.slices_SortFunc_eq Tw.bj2 3 (fun w=>by kernel_rfl) (fun w=>by kernel_rfl) enR (fun _=>rfl) (fun x v hv=>by
   simp only [enR,xb,xf,or_false] at hv;rcases hv with rfl | rfl | rfl<;>rfl) cfR swo 77 #[] b oo (cap+1) g.L.toArray w (enters_of Tw.func77 (by kernel_rfl) rfl) (bm6 _ _ _ _) hH (lt_of_block hb) (by rw [hd]; omega)
  rw [hd] at hcon;refine hcon.mono ?_;rintro e w' ⟨rfl,m,os,rfl⟩;have es:pdq (ltOf cfR) g.L.toArray 0 g.n (Lib.bitLen g.n) true true=srtA g.L.toArray:=by unfold srtA; rw [hd]
  rw [es];have hsd:(srtA g.L.toArray).size=g.n:=by rw [(ag3 g.L.toArray).1.1,hd]
  have pc:∀ j,j<g.n*3->(putCells id oo (flatK enR 3 (srtA g.L.toArray)) cur)[oo+j]?=some ((flatK enR 3 (srtA g.L.toArray))[j]!):=fun j hj=>by
   have hlt:oo+j<cur.size:=by rw [hcs]; have:=lk 3 hlc; omega
   unfold putCells;rw [Array.getElem?_mapIdx,lD hlt];simp only [lB];rw [lm ⟨uM _ _,by rw [size_flatK,hsd]; omega⟩,xJ];rfl
  have psz:(putCells id oo (flatK enR 3 (srtA g.L.toArray)) cur).size=cur.size:=by unfold putCells; simp
  refine ⟨.tuple #[],E,rfl,aA2 hrep he rfl rfl rfl (aM6 _ _ _ _ _) (fun k hk hne=>aD6 hk (hne b rfl) _ _ _) ⟨((putCells id oo (flatK enR 3 (srtA g.L.toArray)) cur).toList.drop oo).take (g.n*3),.inr ⟨b,oo,cap,_,rfl,aD7 hb m _ os,hlc,hcap,by rw [psz,hcs],rfl,?_⟩,fun i j hi hj=>?_⟩,rtup _ _ _⟩
  ·rw [xt,xF,lz,psz,hcs];have:=lk 3 hlc
   omega
  ·have hk:i*3+j<g.n*3:=by omega
   have ex:(((putCells id oo (flatK enR 3 (srtA g.L.toArray)) cur).toList.drop oo).take (g.n*3)).getD (i*3+j) undef=(enR (rI (srt g) i))[j]!:=by
    rw [la,uh hk,xv,lM,pc _ hk,get_flatK _ _ _ _ (by rw [hsd]; exact hk),show (i*3+j) / 3=i by omega,show (i*3+j) % 3=j by omega];have e:(srtA g.L.toArray)[i]! = rI (srt g) i:=by
     unfold rI srt;rw [getElem!_pos _ i (by omega),la,lw (by rw [lz]; omega)];simp
    rw [e];rfl
   rw [ex];have okd:okR (rI (srt g) i):=by
    have hm:rI (srt g) i∈srt g:=by
     unfold rI;rw [la,lw (by rw [aq4]; exact hi)];exact xA _
    have:=(al0 g).mem_iff.1 hm
    obtain ⟨k,hk,e⟩:=xi.1 this;rw [<-e];exact hok k (lH.1 hk)
   exact aA3 (P:=fun s u=>ab1 u/\∀ X':Nat->Prop,R (sortWorldK enR 3 w b oo m (srtA g.L.toArray) os) X' E0 s u) hj ⟨rfl,fun _=> .int⟩ ⟨rfl,fun _=> .int⟩ ⟨rfl,fun _=> .int⟩ okd
end Rgf
section
open Go Go.Proofs Go.Shelf
def Tw.bj3:Go.Shelf.Ren:=⟨fun | 6=>44 | 15=>73 | 14=>72 | 28=>92 | 29=>93 | 20=>84 | 21=>85 | 22=>86 | 23=>87 | 24=>88 | 25=>89 | 26=>90 | 27=>91 | 46=>95 | 47=>96 | 48=>97 | 49=>98 | 50=>99 | 57=>108 | n=>n,fun | 22=>91 | 24=>93 | 25=>96 | 3=>3 | 39=>112 | 0=>0 | 53=>86 | 55=>83 | 4=>4 | 46=>140 | 45=>139 | 50=>100 | 5=>5 | 9=>9 | 66=>148 | 70=>151 | 76=>158 | 77=>159 | n=>n,fun | n=>n⟩
theorem Tw.bE9:SlLaysF0.n6 Tw.prog Tw.bj3:={
  mixed:=by kernel_rfl
  f6:=⟨Tryz.f44.name,by decide,Tw.func44.trans (congrArg some (by kernel_rfl))⟩
  f14:=⟨Tryz.f72.name,by decide,Tw.func72.trans (congrArg some (by kernel_rfl))⟩
  f15:=Tw.func73.trans (congrArg some (by kernel_rfl))
  f20:=⟨Tryz.f84.name,by decide,Tw.func84.trans (congrArg some (by kernel_rfl))⟩
  f21:=⟨Tryz.f85.name,by decide,Tw.func85.trans (congrArg some (by kernel_rfl))⟩
  f22:=⟨Tryz.f86.name,by decide,Tw.func86.trans (congrArg some (by kernel_rfl))⟩
  f23:=⟨Tryz.f87.name,by decide,Tw.func87.trans (congrArg some (by kernel_rfl))⟩
  f24:=⟨Tryz.f88.name,by decide,Tw.func88.trans (congrArg some (by kernel_rfl))⟩
  f25:=⟨Tryz.f89.name,by decide,Tw.func89.trans (congrArg some (by kernel_rfl))⟩
  f26:=⟨Tryz.f90.name,by decide,Tw.func90.trans (congrArg some (by kernel_rfl))⟩
  f27:=⟨Tryz.f91.name,by decide,Tw.func91.trans (congrArg some (by kernel_rfl))⟩
  f28:=Tw.func92.trans (congrArg some (by kernel_rfl))
  f29:=Tw.func93.trans (congrArg some (by kernel_rfl))
  f46:=⟨Tryz.f95.name,by decide,Tw.func95.trans (congrArg some (by kernel_rfl))⟩
  f47:=Tw.func96.trans (congrArg some (by kernel_rfl))
  f48:=Tw.func97.trans (congrArg some (by kernel_rfl))
  f49:=⟨Tryz.f98.name,by decide,Tw.func98.trans (congrArg some (by kernel_rfl))⟩
  f50:=⟨Tryz.f99.name,by decide,Tw.func99.trans (congrArg some (by kernel_rfl))⟩
  f57:=⟨Tryz.f108.name,by decide,Tw.func108.trans (congrArg some (by kernel_rfl))⟩
  t0:=Tw.underlying0
  a0:=Tw.isAgg0
  z0:=Tw.sizeOf0
  v0:=Tw.zeroValue0
  t3:=Tw.underlying3
  a3:=Tw.isAgg3
  z3:=Tw.sizeOf3
  v3:=Tw.zeroValue3
  t4:=Tw.underlying4
  a4:=Tw.isAgg4
  z4:=Tw.sizeOf4
  v4:=Tw.zeroValue4
  t5:=Tw.underlying5
  a5:=Tw.isAgg5
  z5:=Tw.sizeOf5
  v5:=Tw.zeroValue5
  t9:=Tw.underlying9
  a9:=Tw.isAgg9
  z9:=Tw.sizeOf9
  v9:=Tw.zeroValue9
  t22:=Tw.underlying91
  a22:=Tw.isAgg91
  z22:=Tw.sizeOf91
  v22:=Tw.zeroValue91
  t25:=Tw.underlying96
  a25:=Tw.isAgg96
  z25:=Tw.sizeOf96
  v25:=Tw.zeroValue96
  t39:=Tw.underlying112
  a39:=Tw.isAgg112
  z39:=Tw.sizeOf112
  v39:=Tw.zeroValue112
  t45:=Tw.underlying139
  a45:=Tw.isAgg139
  z45:=Tw.sizeOf139
  v45:=Tw.zeroValue139
  t46:=Tw.underlying140
  a46:=Tw.isAgg140
  z46:=Tw.sizeOf140
  v46:=Tw.zeroValue140
  t50:=Tw.underlying100
  a50:=Tw.isAgg100
  z50:=Tw.sizeOf100
  v50:=Tw.zeroValue100
  t53:=Tw.underlying86
  a53:=Tw.isAgg86
  z53:=Tw.sizeOf86
  v53:=Tw.zeroValue86
  t55:=Tw.underlying83
  a55:=Tw.isAgg83
  z55:=Tw.sizeOf83
  v55:=Tw.zeroValue83
  t66:=Tw.underlying148
  a66:=Tw.isAgg148
  z66:=Tw.sizeOf148
  v66:=Tw.zeroValue148
  t70:=Tw.underlying151
  a70:=Tw.isAgg151
  z70:=Tw.sizeOf151
  v70:=Tw.zeroValue151
  t76:=Tw.underlying158
  a76:=Tw.isAgg158
  z76:=Tw.sizeOf158
  v76:=Tw.zeroValue158
  t77:=Tw.underlying159
  a77:=Tw.isAgg159
  z77:=Tw.sizeOf159
  v77:=Tw.zeroValue159 }
end
namespace Ows
open Go.Shelf Go.RowKit Go.Lib Go.Sort Sx Num Rga Rgl Rgm Rgn Rge Rgf
structure Ow where
 y:Int
 x0:Int
 x1:Int
 k:Int
def owL (o:Ow):List SV:=[.int .i64 o.y,.int .i64 o.x0,.int .i64 o.x1,.int .i64 o.k]
def owD (g:Nat->SV):Ow:=⟨Sx.intOf (g 0),Sx.intOf (g 1),Sx.intOf (g 2),Sx.intOf (g 3)⟩
def oI (L:List Ow) (i:Nat):Ow:=L.getD i ⟨0,0,0,0⟩
structure Og where
 n:Nat
 f:Nat->Ow
def Og.L (g:Og):List Ow:=(List.range g.n).map g.f
theorem Og.len (g:Og):g.L.length=g.n:=by simp [Og.L]
theorem Og.oI {g:Og}{i:Nat}(h:i<g.n):oI g.L i=g.f i:=by
 unfold Ows.oI Og.L;rw [la,lV,uu h];rfl
def okO (o:Ow):Prop:=((-8192<=o.y/\o.y<=8192)/\(-8192<=o.x0/\o.x0<=8192)/\ -8192<=o.x1/\o.x1<=8192)/\ -8192<=o.k/\o.k<=8192
def or3 (x y z:Int):Int:=if x=0 then (if y=0 then z else y) else x
theorem bR6 (x y z:Int) (b:Nat) (W:World) (h0:W.cell? ⟨b,0,none⟩=some (.int .i64 x)) (h1:W.cell? ⟨b,1,none⟩=some (.int .i64 y)) (h2:W.cell? ⟨b,2,none⟩=some (.int .i64 z)) :
  Calls Tw.prog 46 #[.slice (some ⟨b,0,none⟩) 3 3] W fun e w'=>e = .returned (.int .i64 (or3 x y z))/\w'=W:=by
 by_cases hx:x=0
 ·by_cases hy:y=0
  ·have e:or3 x y z=z:=by unfold or3; rw [lm hx,lm hy]
   rw [e];clear e;subst hx;subst hy;by_cases hz:z=0
   ·subst hz;go_enter Tw.func46,Tw.ntmps46
    go_wp2
    refine wp_loop_rounds 4 ?_;rw [rounds_succ];go_wp2
    rw [rounds_succ];go_wp2
    rw [rounds_succ];go_wp2
    rw [rounds_succ];go_wp2
    go_ret
    exact ⟨rfl,rfl⟩
   ·go_enter Tw.func46,Tw.ntmps46
    go_wp2
    refine wp_loop_rounds 4 ?_;rw [rounds_succ];go_wp2
    rw [rounds_succ];go_wp2
    rw [rounds_succ];go_wp2
    go_ret
    exact ⟨rfl,rfl⟩
  ·have e:or3 x y z=y:=by unfold or3; rw [lm hx,lr hy]
   rw [e];clear e;subst hx;go_enter Tw.func46,Tw.ntmps46
   go_wp2
   refine wp_loop_rounds 4 ?_;rw [rounds_succ];go_wp2
   rw [rounds_succ];go_wp2
   go_ret
   exact ⟨rfl,rfl⟩
 ·have e:or3 x y z=x:=lr hx;rw [e];clear e;go_enter Tw.func46,Tw.ntmps46
  go_wp2
  refine wp_loop_rounds 4 ?_;rw [rounds_succ];go_wp2
  go_ret
  exact ⟨rfl,rfl⟩
theorem a68 (a0 a1 a2 a3 b0 b1 b2 b3:Int) (W:World) (h0 : -9223372036854775808<=a0-b0/\a0-b0<=9223372036854775807) (h1 : -9223372036854775808<=a1-b1/\a1-b1<=9223372036854775807) (h2 : -9223372036854775808<=a3-b3/\a3-b3<=9223372036854775807) :
  Calls Tw.prog 45 #[.agg #[.int .i64 a0,.int .i64 a1,.int .i64 a2,.int .i64 a3],.agg #[.int .i64 b0,.int .i64 b1,.int .i64 b2,.int .i64 b3]] W fun e w'=>e = .returned (.int .i64 (or3 (a0-b0) (a1-b1) (a3-b3)))/\∃ q os',w'=grow (W.drewN q) os':=by
 have hcon:=fun b W' h0 h1 h2=>bR6 (a0-b0) (a1-b1) (a3-b3) b W' h0 h1 h2
 generalize or3 (a0-b0) (a1-b1) (a3-b3)=r at hcon ⊢;go_enter Tw.func45,Tw.ntmps45
 go_wp2_with (go_at_call 46; refine (hcon _ _ (aC6 (by simp) rfl) (aC6 (by simp) rfl) (aC6 (by simp) rfl)).mono ?_; rintro e w' ⟨rfl,rfl⟩)
 go_ret
 exact ⟨rfl,0,_,by rw [alloc_eq_grow,alloc_eq_grow,alloc_eq_grow,grow_grow,grow_grow]; rfl⟩
instance:Inhabited Ow:=⟨⟨0,0,0,0⟩⟩
def enR (r:Ow):List Value:=[.int .i64 (cl r.y),.int .i64 (cl r.x0),.int .i64 (cl r.x1),.int .i64 (cl r.k)]
def cfR (x y:Ow):Int:=or3 (cl x.y-cl y.y) (cl x.x0-cl y.x0) (cl x.k-cl y.k)
theorem lt_iff (x y:Ow):ltOf cfR x y=true<->(cl x.y<cl y.y\/(cl x.y=cl y.y/\(cl x.x0<cl y.x0\/(cl x.x0=cl y.x0/\cl x.k<cl y.k)))):=by
 unfold ltOf cfR or3;rw [decide_eq_true_iff];split
 ·split<;>omega
 ·omega
theorem at0 (x y:Ow):ltOf cfR x y=false<->¬ (cl x.y<cl y.y\/(cl x.y=cl y.y/\(cl x.x0<cl y.x0\/(cl x.x0=cl y.x0/\cl x.k<cl y.k)))):=by
 rw [<-lt_iff,uk]
theorem swo:SWO (ltOf cfR) where
 irrefl x:=by rw [at0]; omega
 trans x y z h1 h2:=by rw [lt_iff] at *; omega
 ntrans x y z h1 h2:=by rw [at0] at *; omega
theorem bm6 (blk off sz:Nat) (w:World):CmpLays Tw.prog 45 #[] enR 4 cfR blk off sz w:=fun _ _ _ _ x y=>by
 have a1:=cl_b x.y; have a2:=cl_b y.y; have a3:=cl_b x.x0; have a4:=cl_b y.x0; have a5:=cl_b x.k; have a6:=cl_b y.k;exact a68 (cl x.y) (cl x.x0) (cl x.x1) (cl x.k) (cl y.y) (cl y.x0) (cl y.x1) (cl y.k) _ (by omega) (by omega) (by omega)
def srtA (d:Array Ow):Array Ow:=pdq (ltOf cfR) d 0 d.size (Lib.bitLen d.size) true true
def srt (g:Og):List Ow:=(srtA g.L.toArray).toList
theorem ag3 (d:Array Ow):PermIn 0 d.size d (srtA d)/\SortedIn (ltOf cfR) 0 d.size (srtA d):=
 pdq_sorts (ltOf cfR) swo d 0 d.size (Lib.bitLen d.size) true true (lC _) (lf _) (Or.inl rfl)
theorem aq4 (g:Og):(srt g).length=g.n:=by
 have:=(ag3 g.L.toArray).1.1
 unfold srt;rw [lz,this,xu,Og.len]
theorem al0 (g:Og):(srt g).Perm g.L:=by
 have h:=(ag3 g.L.toArray).1;have h2:=h.2.2;have e1:((srtA g.L.toArray).extract 0 g.L.toArray.size)=srtA g.L.toArray:=by rw [<-h.1]; simp
 have e2:(g.L.toArray.extract 0 g.L.toArray.size)=g.L.toArray:=by simp
 rw [e1,e2] at h2;unfold srt;simpa using h2
theorem au3 (g:Og) {i j:Nat}(hij:i<j) (hj:j<g.n):ltOf cfR (oI (srt g) j) (oI (srt g) i)=false:=by
 have h:=(ag3 g.L.toArray).2 i j (lC _) hij (by rw [xu,Og.len]; exact hj);have hs:(srtA g.L.toArray).size=g.n:=by rw [(ag3 g.L.toArray).1.1,xu,Og.len]
 have e:∀ k,k<g.n->oI (srt g) k=(srtA g.L.toArray)[k]!:=fun k hk=>by
  unfold oI srt;rw [getElem!_pos _ k (by omega),la,lw (by rw [lz]; omega)];simp
 rw [e i (by omega),e j hj];exact h
theorem aA2 {w w':World}{X:Fr}{E:Env}{n:Nat}{g g':Nat->Nat->SV}{T:TypeId}{v:Value}{us:Nat->Option Nat}(h:Rep w X [.row 0 n 4 g T] E w) (he:E 0=some (.slc 0 v us))
  (hos:w'.os=w.os) (htp:w'.tape=w.tape) (hout:w'.output=w.output) (hsz:w.heap.size<=w'.heap.size)
  (hblk:∀ k,k<w.heap.size->(∀ b,holds (.slc 0 v us) (.row 0 n 4 g T) b->k≠b)->w'.heap[k]?=w.heap[k]?)
  (hok:∃ xs,ah4 w' T 4 v n xs/\∀ i j,i<n->j<4->ab1 (xs.getD (i*4+j) undef)/\∀ X',R w' X' E0 (g' i j) (xs.getD (i*4+j) undef)) :
  Rep w X [.row 0 n 4 g' T] E w':=by
 have hd:∀ k e,E k=some e->k=0/\e = .slc 0 v us:=fun k e hk=>by
  have h1:=h.dom k e hk;have h0:k=0:=by simp at h1; omega
  subst h0;rw [he] at hk;exact ⟨rfl,(sj hk).symm⟩
 have hh:∀ b,holds (.slc 0 v us) (.row 0 n 4 g' T) b->holds (.slc 0 v us) (.row 0 n 4 g T) b:=fun b hb=>hb
 refine ⟨⟨hos,htp,hout,hsz,fun k hk hdk=>hblk k hk (fun b hb hkb=>?_)⟩,h.x0,h.nm,h.dom,fun k e hk=>?_,fun k e b hk hb=>?_,fun k k' e e' b hk hk' hb hb'=>?_⟩
 ·rcases h.low 0 _ b he hb with h1 | h1
  ·omega
  ·exact hdk (hkb▸h1)
 ·obtain ⟨rfl,rfl⟩:=hd k e hk;obtain ⟨xs,h1,h2⟩:=hok;exact ⟨rfl,xs,h1,fun i j hi hj=>⟨(h2 i j hi hj).1,(h2 i j hi hj).2 _⟩⟩
 ·obtain ⟨rfl,rfl⟩:=hd k e hk;exact h.low 0 _ b he (hh b hb)
 ·rw [(hd k e hk).1,(hd k' e' hk').1]
theorem aD7 {oo:Nat}{w:World}{b:Nat}{cur:Array Value}{T:TypeId}(hb:w.heap[b]?=some (.cells cur T (0,0))) (m:Nat) (d:Array Ow) (os:Array Obj) :
  (sortWorldK enR 4 w b oo m d os).heap[b]?=some (.cells (putCells id oo (flatK enR 4 d) cur) T (0,0)):=by
 have hlt:b<w.heap.size:=lt_of_block hb;show ((w.heap.modify b (onCells (putCells id oo (flatK enR 4 d))))++os)[b]?=_;rw [xj (by rw [ut]; exact hlt),ue,lm rfl,hb];rfl
theorem aD6 {oo:Nat}{w:World}{b k:Nat}(hk:k<w.heap.size) (hne:k≠b) (m:Nat) (d:Array Ow) (os:Array Obj):(sortWorldK enR 4 w b oo m d os).heap[k]?=w.heap[k]?:=by
 show ((w.heap.modify b (onCells (putCells id oo (flatK enR 4 d))))++os)[k]?=_;rw [xj (by rw [ut]; exact hk),ue,lr (xE hne)]
theorem aM6 {oo:Nat}(w:World) (b m:Nat) (d:Array Ow) (os:Array Obj):w.heap.size<=(sortWorldK enR 4 w b oo m d os).heap.size:=by
 show _<=((w.heap.modify b (onCells (putCells id oo (flatK enR 4 d))))++os).size;rw [Array.size_append,ut];exact uM _ _
theorem aA3 {r:Ow}{j:Nat}(hj:j<4) (P:SV->Value->Prop) (h0:P (.int .i64 r.y) (.int .i64 r.y)) (h1:P (.int .i64 r.x0) (.int .i64 r.x0)) (h2:P (.int .i64 r.x1) (.int .i64 r.x1)) (h3:P (.int .i64 r.k) (.int .i64 r.k)) (ok:okO r):P (lst (owL r) j) ((enR r)[j]!):=by
 obtain ⟨⟨⟨a1,a2⟩,⟨a3,a4⟩,a5,a6⟩,a7,a8⟩:=ok;unfold enR;rw [ar3 a1 a2,ar3 a3 a4,ar3 a5 a6,ar3 a7 a8];match j,hj with
 | 0,_=>exact h0
 | 1,_=>exact h1
 | 2,_=>exact h2
 | 3,_=>exact h3
def soD:List SV->List SO->Option Og
 | [_,.fn _ _ _],[.row _ n _ g _]=>some ⟨n,fun i=>owD (g i)⟩
 | _,_=>none
def rowW (ver:Nat) (n:Nat) (f:Nat->Ow):SO:= .row ver n 4 (fun i=>lst (owL (f i))) 93
def ba9:FSpec:=af2 44 [.arg 0] soD (fun _=>[.osl 0 0,.fn 45 0 (lst [])]) (fun g=>[rowW 0 g.n g.f]) (fun g=>(∀ i,i<g.n->okO (g.f i))/\g.n<=4294967296) (fun _=> .tup 0 (lst [])) (fun g=>[rowW 0 g.n (oI (srt g))])
theorem bj9:aa7 Tw.prog ba9:=by
 refine aU9 (enters_of Tw.func44 (by kernel_rfl) rfl) (fun g hg vals w X E hnm hrep hsz hr=>?_);obtain ⟨hok,hn⟩:=hg;have h0:=hr 0 (by show 0<2; decide);have h1:=hr 1 (by show 1<2; decide);obtain ⟨v0,v1,rfl⟩:∃ v0 v1,vals = #[v0,v1]:=by
  have hs:vals.size=2:=hsz;exact ⟨vals[0],vals[1],by
   apply Array.ext
   ·exact hs
   ·intro i hi1 hi2;have:i=0\/i=1:=by omega
    rcases this with rfl | rfl<;>rfl⟩
 have h0:R w (Xo X E [rowW 0 g.n g.f]) E (.osl 0 0) v0:=h0;have h1:R w (Xo X E [rowW 0 g.n g.f]) E (.fn 45 0 (lst [])) v1:=h1;have hv1:v1 = .func (.func 45) #[] #[]:=by
  cases h1 with
  | fn hs hr=>rw [xW.1 hs]
 subst hv1;obtain ⟨us,he⟩:∃ us,E 0=some (.slc 0 v0 us):=by
  cases h0 with
  | osl he _=>exact ⟨_,he⟩
  | oslOld he hl _=>
   have:=(hrep.ok 0 _ he).1
   omega
 obtain ⟨_,xs,hown,hxs⟩:=hrep.ok 0 _ he;have rtup:∀ (w':World) (X':Nat->Prop) (E':Env),R w' X' E' (.tup 0 (lst [])) (.tuple #[]):=fun _ _ _=> .tup rfl (fun i hi=>absurd hi (ln _))
 rcases hown with ⟨a,rfl,hz,rfl⟩ | ⟨b,oo,cap,cur,rfl,hb,hlc,hcap,hcs,htake,hxl⟩
 ·refine (AnyF.slices_SortFunc_none Tw.bE9 a 0 (.func (.func 45) #[] #[]) w).mono ?_;rintro e w' ⟨rfl,rfl⟩;refine ⟨.tuple #[],E,rfl,aA2 hrep he rfl rfl rfl (lf _) (fun _ _ _=>rfl) ⟨[],.inl ⟨a,rfl,hz,rfl⟩,fun i j hi=>?_⟩,rtup _ _ _⟩;rw [hz] at hi;exact absurd hi (ln _)
 ·have hd:g.L.toArray.size=g.n:=by rw [xu,Og.len]
  have gL:∀ i,i<g.n->(g.L.toArray)[i]! = g.f i:=fun i hi=>by
   rw [getElem!_pos _ i (by omega)];simp [Og.L]
  have aq9:∀ j,j<g.n*4->cur[oo+j]?=some ((flatK enR 4 g.L.toArray)[j]!):=fun j hj=>by
   have hij:j / 4*4+j % 4=j:=by omega
   have hi:j / 4<g.n:=by omega
   have hj3:j % 4<4:=by omega
   obtain ⟨_,hR⟩:=hxs (j / 4) (j % 4) hi hj3;rw [hij] at hR;have ex:xs.getD j undef=(cur[oo+j]?).getD undef:=by
    rw [<-htake,la,uh hj,xv];simp
   have hlt:oo+j<cur.size:=by rw [hcs]; have:=lk 4 hlc; omega
   rw [ex] at hR;rw [lD hlt] at hR ⊢;rw [get_flatK _ _ _ _ (by rw [hd]; exact hj),gL _ hi];congr 1;refine aA3 (P:=fun s u=>R w (Xo X E [rowW 0 g.n g.f]) E0 s cur[oo+j]->cur[oo+j]=u) hj3 ?_ ?_ ?_ ?_ (hok _ hi) hR
   ·intro h; exact ah2 h
   ·intro h; exact ah2 h
   ·intro h; exact ah2 h
   ·intro h; exact ah2 h
  have hH:HoldsK enR 4 w b oo g.L.toArray:=fun j hj=>by
   rw [size_flatK,hd] at hj;have hc:=aq9 j hj;refine ⟨?_,?_⟩
   ·unfold World.cell?;rw [hb];exact hc
   ·unfold World.frozen?;rw [hb];simp
  have hcon:=AnyQ.slices_SortFunc_eq Tw.bE9 4 (fun w=>by kernel_rfl) (fun w=>by kernel_rfl) enR (fun _=>rfl) (fun x v hv=>by
   simp only [enR,xb,xf,or_false] at hv;rcases hv with rfl | rfl | rfl | rfl<;>rfl) cfR swo 45 #[] b oo (cap+1) g.L.toArray w (enters_of Tw.func45 (by kernel_rfl) rfl) (bm6 _ _ _ _) hH (lt_of_block hb) (by rw [hd]; omega)
  rw [hd] at hcon;refine hcon.mono ?_;rintro e w' ⟨rfl,m,os,rfl⟩;have es:pdq (ltOf cfR) g.L.toArray 0 g.n (Lib.bitLen g.n) true true=srtA g.L.toArray:=by unfold srtA; rw [hd]
  rw [es];have hsd:(srtA g.L.toArray).size=g.n:=by rw [(ag3 g.L.toArray).1.1,hd]
  have pc:∀ j,j<g.n*4->(putCells id oo (flatK enR 4 (srtA g.L.toArray)) cur)[oo+j]?=some ((flatK enR 4 (srtA g.L.toArray))[j]!):=fun j hj=>by
   have hlt:oo+j<cur.size:=by rw [hcs]; have:=lk 4 hlc; omega
   unfold putCells;rw [Array.getElem?_mapIdx,lD hlt];simp only [lB];rw [lm ⟨uM _ _,by rw [size_flatK,hsd]; omega⟩,xJ];rfl
  have psz:(putCells id oo (flatK enR 4 (srtA g.L.toArray)) cur).size=cur.size:=by unfold putCells; simp
  refine ⟨.tuple #[],E,rfl,aA2 hrep he rfl rfl rfl (aM6 _ _ _ _ _) (fun k hk hne=>aD6 hk (hne b rfl) _ _ _) ⟨((putCells id oo (flatK enR 4 (srtA g.L.toArray)) cur).toList.drop oo).take (g.n*4),.inr ⟨b,oo,cap,_,rfl,aD7 hb m _ os,hlc,hcap,by rw [psz,hcs],rfl,?_⟩,fun i j hi hj=>?_⟩,rtup _ _ _⟩
  ·rw [xt,xF,lz,psz,hcs];have:=lk 4 hlc
   omega
  ·have hk:i*4+j<g.n*4:=by omega
   have ex:(((putCells id oo (flatK enR 4 (srtA g.L.toArray)) cur).toList.drop oo).take (g.n*4)).getD (i*4+j) undef=(enR (oI (srt g) i))[j]!:=by
    rw [la,uh hk,xv,lM,pc _ hk,get_flatK _ _ _ _ (by rw [hsd]; exact hk),show (i*4+j) / 4=i by omega,show (i*4+j) % 4=j by omega];have e:(srtA g.L.toArray)[i]! = oI (srt g) i:=by
     unfold oI srt;rw [getElem!_pos _ i (by omega),la,lw (by rw [lz]; omega)];simp
    rw [e];rfl
   rw [ex];have okd:okO (oI (srt g) i):=by
    have hm:oI (srt g) i∈srt g:=by
     unfold oI;rw [la,lw (by rw [aq4]; exact hi)];exact xA _
    have:=(al0 g).mem_iff.1 hm
    obtain ⟨k,hk,e⟩:=xi.1 this;rw [<-e];exact hok k (lH.1 hk)
   exact aA3 (P:=fun s u=>ab1 u/\∀ X':Nat->Prop,R (sortWorldK enR 4 w b oo m (srtA g.L.toArray) os) X' E0 s u) hj ⟨rfl,fun _=> .int⟩ ⟨rfl,fun _=> .int⟩ ⟨rfl,fun _=> .int⟩ ⟨rfl,fun _=> .int⟩ okd
end Ows
namespace Apl
open Go.RowKit Go.Lib Go.Sort Sx Num Aff Con Rga Rgl Rgm Rgn Rgf Gat Gar Ows
def Pcs.L (P:Pcs) (k:Nat):List Rn:=Lf (P.p k) (P.m k)
def ow (r:Rn) (k:Nat):Ow:=⟨r.y,r.x0,r.x1,k⟩
def Ow.r (o:Ow):Rn:=⟨o.y,o.x0,o.x1⟩
def alr (P:Pcs) (k j:Nat):List Ow:=(List.range j).map fun i=>ow (P.p k i) k
def al (P:Pcs):Nat->List Ow
 | 0=>[]
 | k+1=>al P k++alr P k (P.m k)
structure PcOK (P:Pcs):Prop where
 n:P.n<=4096
 tot:(al P P.n).length<=100000000
 v:∀ k,k<P.n->vld (Pcs.L P k)
 ne:∀ k,k<P.n->0<P.m k
 dist:∀ i j,i<j->j<P.n->kOf (P.ink i)≠kOf (P.ink j)
 disj:∀ i j,i<j->j<P.n->∀ y x,mem (Pcs.L P i) y x=true->mem (Pcs.L P j) y x=true->False
 ord:∀ k,k+1<P.n->(P.p k 0).y<(P.p (k+1) 0).y\/((P.p k 0).y=(P.p (k+1) 0).y/\(P.p k 0).x0<=(P.p (k+1) 0).x0)
theorem bt0 (P:Pcs) (k j:Nat):alr P k (j+1)=alr P k j++[ow (P.p k j) k]:=by
 unfold alr;rw [List.range_succ,List.map_append];rfl
theorem am7 (P:Pcs) (k j:Nat):(alr P k j).length=j:=by simp [alr]
theorem a90 (P:Pcs):∀ k l,k<=l->(al P k).length<=(al P l).length
 | k,0,h=>by rw [Nat.le_zero.1 h]; exact lf _
 | k,l+1,h=>by
  by_cases hk:k=l+1
  ·rw [hk]; exact lf _
  ·have:=a90 P k l (by omega)
   show _<=(al P l++alr P l (P.m l)).length;rw [lx];omega
theorem bk2 {P:Pcs}{k j:Nat}{o:Ow}:o∈alr P k j<->∃ i,i<j/\o=ow (P.p k i) k:=by
 unfold alr;rw [xi];exact ⟨fun ⟨i,h,e⟩=>⟨i,lH.1 h,e.symm⟩,fun ⟨i,h,e⟩=>⟨i,lH.2 h,e.symm⟩⟩
theorem bd1 {P:Pcs}{o:Ow}:∀ {n},o∈al P n<->∃ k i,k<n/\i<P.m k/\o=ow (P.p k i) k
 | 0=>⟨fun h=>(xf h).elim,fun ⟨_,_,h,_⟩=>absurd h (ln _)⟩
 | n+1=>by
  show o∈al P n++alr P n (P.m n)<->_;rw [xZ,bd1,bk2];constructor
  ·rintro (⟨k,i,h1,h2,h3⟩ | ⟨i,h1,h2⟩)
   ·exact ⟨k,i,by omega,h2,h3⟩
   ·exact ⟨n,i,by omega,h1,h2⟩
  ·rintro ⟨k,i,h1,h2,h3⟩;by_cases hk:k=n
   ·subst hk; exact .inr ⟨i,h2,h3⟩
   ·exact .inl ⟨k,i,by omega,h2,h3⟩
theorem ay3 {P:Pcs}{k i:Nat}(h:i<P.m k):P.p k i∈Pcs.L P k:=xi.2 ⟨i,lH.2 h,rfl⟩
theorem b84 {P:Pcs}(h:PcOK P) {k i j:Nat}(hk:k<P.n) (hij:i<j) (hj:j<P.m k):ltR (P.p k i) (P.p k j):=ca2 (g:=⟨P.m k,P.p k⟩) (h.v k hk) hij hj
theorem bh2 {P:Pcs}(h:PcOK P) {k:Nat}(hk:k<P.n):∀ j,j<=P.m k->(alr P k j).Nodup
 | 0,_=>List.nodup_nil
 | j+1,hj=>by
  rw [bt0,List.nodup_append];refine ⟨bh2 h hk j (by omega),(by simp),fun a ha b hb hab=>?_⟩;obtain ⟨i,hi,rfl⟩:=bk2.1 ha;rw [xw] at hb;rw [hb] at hab;have hl:=b84 h hk hi (by omega:j<P.m k);have e1:(P.p k i).y=(P.p k j).y:=congrArg Ow.y hab;have e2:(P.p k i).x0=(P.p k j).x0:=congrArg Ow.x0 hab;have e3:(P.p k i).x1=(P.p k j).x1:=congrArg Ow.x1 hab;have ok:=(h.v k hk).1 _ (ay3 (show i<P.m k by omega));have:=ok.2
  unfold ltR at hl;omega
theorem bt3 {P:Pcs}(h:PcOK P):∀ n,n<=P.n->(al P n).Nodup
 | 0,_=>List.nodup_nil
 | n+1,hn=>by
  show (al P n++alr P n (P.m n)).Nodup;rw [List.nodup_append];refine ⟨bt3 h n (by omega),bh2 h (by omega) _ (lf _),fun a ha b hb hab=>?_⟩;obtain ⟨k,i,h1,h2,rfl⟩:=bd1.1 ha;obtain ⟨j,h3,rfl⟩:=bk2.1 hb;have:((k:Nat):Int)=(n:Int):=congrArg Ow.k hab
  omega
def alG (P:Pcs):Og:=⟨(al P P.n).length,oI (al P P.n)⟩
theorem Og_of (L:List Ow):Og.L ⟨L.length,oI L⟩=L:=by
 refine laf (by simp [Og.L]) fun i h1 h2=>?_
 simp [Og.L,oI,h2]
theorem cp2 (P:Pcs):(alG P).L=al P P.n:=Og_of _
theorem bV6 {P:Pcs}(h:PcOK P) {o:Ow}(ho:o∈al P P.n):okO o:=by
 obtain ⟨k,i,h1,h2,rfl⟩:=bd1.1 ho;have ok:=(h.v k h1).1 _ (ay3 h2);obtain ⟨⟨q1,q2,q3⟩,q4⟩:=ok;have hn:=h.n;exact ⟨⟨⟨q1.1,by show (P.p k i).y<=8192; omega⟩,q2,q3⟩,by show -8192<=(k:Int); omega,by show (k:Int)<=8192; omega⟩
theorem br0 {L:List Ow}{i:Nat}(h:i<L.length):oI L i∈L:=by
 unfold oI;rw [la,lw h];exact xA h
theorem bD7 {P:Pcs}(h:PcOK P) {i:Nat}(hi:i+1<(al P P.n).length) (hy:(oI (Ows.srt (alG P)) i).y=(oI (Ows.srt (alG P)) (i+1)).y):(oI (Ows.srt (alG P)) i).x1<=(oI (Ows.srt (alG P)) (i+1)).x0:=by
 have hlen:(Ows.srt (alG P)).length=(al P P.n).length:=Ows.aq4 _;have hp:(Ows.srt (alG P)).Perm (al P P.n):=by have:=Ows.al0 (alG P); rwa [cp2] at this
 have nd:(Ows.srt (alG P)).Nodup:=hp.nodup_iff.2 (bt3 h _ (lf _));have m1:=hp.mem_iff.1 (br0 (L:=srt (alG P)) (i:=i) (by omega));have m2:=hp.mem_iff.1 (br0 (L:=srt (alG P)) (i:=i+1) (by omega));have hs:=Ows.au3 (alG P) (i:=i) (j:=i+1) (by omega) (by show i+1<(al P P.n).length; omega);have hne:oI (Ows.srt (alG P)) i≠oI (Ows.srt (alG P)) (i+1):=by
  unfold oI;rw [la,la,lw (show i<(Ows.srt (alG P)).length by omega),lw (show i+1<(Ows.srt (alG P)).length by omega)];exact um.1 nd i (i+1) (by omega) (by omega) (by omega)
 generalize oI (Ows.srt (alG P)) i=a at *
 generalize oI (Ows.srt (alG P)) (i+1)=b at *
 have oka:=bV6 h m1;have okb:=bV6 h m2;rw [Ows.at0] at hs;rw [ar3 okb.1.1.1 okb.1.1.2,ar3 oka.1.1.1 oka.1.1.2,ar3 okb.1.2.1.1 okb.1.2.1.2,ar3 oka.1.2.1.1 oka.1.2.1.2] at hs;have hx:a.x0<=b.x0:=by omega
 obtain ⟨k,s,h1,h2,rfl⟩:=bd1.1 m1;obtain ⟨l,t,h3,h4,rfl⟩:=bd1.1 m2;have ra:=((h.v k h1).1 _ (ay3 h2)).2;have rb:=((h.v l h3).1 _ (ay3 h4)).2;have hy:(P.p k s).y=(P.p l t).y:=hy;have hx:(P.p k s).x0<=(P.p l t).x0:=hx;show (P.p k s).x1<=(P.p l t).x0;by_cases hkl:k=l
 ·subst hkl;rcases xL s t with hst | hst | hst
  ·have:=b84 h h1 hst h4
   unfold ltR at this;omega
  ·subst hst; exact absurd rfl hne
  ·have:=b84 h h1 hst h2
   unfold ltR at this;omega
 ·refine Int.not_lt.1 fun hc=>?_
  have i1:mem (Pcs.L P k) (P.p k s).y (P.p l t).x0=true:=(mem_iff _ _ _).2 ⟨_,ay3 h2,rfl,hx,hc⟩;have i2:mem (Pcs.L P l) (P.p k s).y (P.p l t).x0=true:=(mem_iff _ _ _).2 ⟨_,ay3 h4,hy.symm,xl _,rb⟩;rcases ul hkl with hlt | hgt
  ·exact h.disj k l hlt h3 _ _ i1 i2
  ·exact h.disj l k hgt h1 _ _ i2 i1
end Apl
namespace Apt
open Go.RowKit Sx Num Aff Con Rga Rgl Rgm Rgn Gat Gar Ows Apl
def bp0:FSpec:=ab0 49 (γ:=Rn×Rn) (fun | [.agg _ x,.agg _ y]=>some (rnD x,rnD y) | _=>none) (fun g=>[rnS g.1,rnS g.2]) (fun _=>True)
 (fun g=> .bool (decide (g.1.y<g.2.y)||(decide (g.1.y=g.2.y)&&decide (g.1.x0<g.2.x0))))
theorem bI0:aa7 Tw.prog bp0:=by
 refine ssW (specs:=[]) trivial Tw.func49 (fun g=>A0) ?_;rintro ⟨a,b⟩ _;refine ad5 (B:=let T9:=fun p:Prop=>True/\True/\True/\True/\True/\True/\True/\True/\True/\p;let z0:=(decide (a.y<b.y)||decide (a.y=b.y)&&decide (a.x0<b.x0));T9 (Br (decide (a.y<b.y)) (True/\True/\True/\Aq (true=z0)) (True/\True/\True/\True/\True/\True/\Br (decide (a.y=b.y)) (T9 (Aq (decide (a.x0<b.x0)=z0))) (True/\True/\True/\True/\Aq (false=z0))))) ?_;simp only [cln,lF,lS];refine ⟨fun h=>by rw [lj h]; rfl,fun h=>?_⟩;rw [lg h,lai];refine ⟨fun h2=>by rw [lj h2]; rfl,fun h2=>by rw [lg h2]; rfl⟩
structure DlG where
 n:Nat
 f:Nat->Ow
 o:Ow
def dlD:List SV->List SO->Option DlG
 | _,[.row _ n _ g _,.cells _ c _]=>some ⟨n,fun i=>owD (g i),owD c⟩
 | _,_=>none
def rowO (ver n:Nat) (f:Nat->Ow):SO:= .row ver n 4 (fun i=>lst (owL (f i))) 93
def celO (o:Ow):SO:= .cells 4 (lst (owL o)) 93
def dlF:SV:= .fn 48 1 (lst [.own 1 0])
def b68:FSpec:=af2 48 [.arg 1] (fun | [.agg _ x,_],[.cells _ c _]=>some (owD x,owD c) | _,_=>none) (fun g=>[.agg 4 (lst (owL g.1)),.own 0 0]) (fun g=>[celO g.2]) (fun _=>True) (fun g=> .bool (decide (g.1.x1<=g.2.x0))) (fun g=>[celO g.2])
theorem bZ3:aa7 Tw.prog b68:=by
 refine smW (specs:=[]) trivial Tw.func48 (fun g=>A0) true ?_;rintro ⟨a,b⟩ _;refine ad5 (B:=let A:=Aq;let z0:=(IntKind.i64=IntKind.i64);let q0:=fun p:Int=>A z0/\A (p=p);True/\True/\True/\True/\True/\True/\True/\True/\True/\True/\True/\True/\(A (decide (a.x1<=b.x0)=decide (a.x1<=b.x0))/\True)/\((((True/\q0 b.y)/\q0 b.x0)/\q0 b.x1)/\q0 b.k)/\True) ?_;simp only [cln,lF,lS]
def DlG.Ok (g:DlG):Prop:=g.n<=1/\∀ i,i<g.n->(g.f i).x1<=g.o.x0
def ch0:FSpec:=af2 74 [.arg 0,.part 1 0] dlD (fun _=>[.osl 0 0,dlF]) (fun g=>[rowO 0 g.n g.f,celO g.o]) (fun g=>g.Ok) (fun g=> .int .i64 (if g.n=0 then -1 else 0)) (fun g=>[rowO 0 g.n g.f,celO g.o])
theorem cl4:aa7 Tw.prog ch0:=by
 refine smW (specs:=[b68]) (⟨bZ3,trivial⟩) Tw.func74 (fun g=>(⟨[(2,.rounds 2)],[]⟩:Ann)) true ?_;rintro g hg;refine ad5 (B:=let T5:=fun p:Prop=>True/\True/\True/\True/\True/\p;let K:=Br;let A:=Aq;let z7:=(1:Int);let z6:=(0:Int);let z4:=(g.f (Int.toNat z6));let z3:=(g.f (z6+z7).toNat);let z2:=(IntKind.i64=IntKind.i64);let q2:=fun p:Int=>A z2/\A (p=p);let z1:=(A (g.n=g.n)/\∀ i:Nat,i<g.n->(((True/\q2 ((g.f i).y))/\q2 ((g.f i).x0))/\q2 ((g.f i).x1))/\q2 ((g.f i).k));let z0:=((((True/\q2 g.o.y)/\q2 g.o.x0)/\q2 g.o.x1)/\q2 g.o.k);let z5:=(True/\True/\True/\((A z2/\A ((-1:Int)=if g.n=(0:Nat) then (-1:Int) else z6))/\True)/\z1/\z0/\True);T5 (K (decide (z6<(↑g.n:Int))) (T5 (A (z6<=z6/\z6<(↑g.n:Int))/\A (Int.toNat z6<g.n)/\((True/\(((((True/\q2 z4.y)/\q2 z4.x0)/\q2 z4.x1)/\q2 z4.k)/\A ((0:Nat)=(0:Nat))/\True)/\z0/\True)/\A True)/\K (decide (z4.x1<=g.o.x0)) (True/\True/\True/\True/\((A z2/\A (z6=if g.n=(0:Nat) then (-1:Int) else z6))/\True)/\z1/\z0/\True) (A ((-9223372036854775808:Int)<=z6+z7/\z6+z7<=(9223372036854775807:Int))/\True/\True/\K (decide (z6+z7<(↑g.n:Int))) (T5 (A (z6<=z6+z7/\z6+z7<(↑g.n:Int))/\A ((z6+z7).toNat<g.n)/\((True/\(((((True/\q2 z3.y)/\q2 z3.x0)/\q2 z3.x1)/\q2 z3.k)/\A ((0:Nat)=(0:Nat))/\True)/\z0/\True)/\A True)/\K (decide (z3.x1<=g.o.x0)) (True/\True/\True/\True/\((A z2/\A (z6+z7=if g.n=(0:Nat) then (-1:Int) else z6))/\True)/\z1/\z0/\True) (A ((-9223372036854775808:Int)<=z6+z7+z7/\z6+z7+z7<=(9223372036854775807:Int))/\True/\False))) z5))) z5)) ?_;simp only [cln,lF,lS];obtain ⟨h1,h2⟩:=hg;refine ⟨fun h=>⟨by omega,by show 0<g.n; omega,fun _=>by rw [lr (by omega)],fun hc=>absurd (h2 0 (by omega)) hc⟩,fun h=>by rw [lm (by omega)]⟩
def bX7:FSpec:=af2 47 [.arg 0,.part 1 0] dlD (fun _=>[.osl 0 0,dlF]) (fun g=>[rowO 0 g.n g.f,celO g.o]) (fun g=>g.Ok) (fun _=> .osl 0 1) (fun g=>[rowO 1 0 g.f,celO g.o])
theorem b90:aa7 Tw.prog bX7:=by
 refine smW (specs:=[ch0,b68]) (⟨cl4,bZ3,trivial⟩) Tw.func47 (fun g=>(⟨[(5,.rounds 1)],[(1000012,[.shrink 4])]⟩:Ann)) true ?_;rintro g hg;refine ad5 (B:=let T3:=fun p:Prop=>True/\True/\True/\p;let K:=Int.ofNat;let A:=Aq;let z11:=(↑g.n:Int);let z9:=(1:Int);let z8:=(0:Int);let z7:=(0:Nat);let z10:=(z8<=if g.n=z7 then (-1:Int) else z8);let z2:=(IntKind.i64=IntKind.i64);let q2:=fun p:Int=>A z2/\A (p=p);let z1:=((((True/\q2 g.o.y)/\q2 g.o.x0)/\q2 g.o.x1)/\q2 g.o.k);let z0:=(if g.n=z7 then (-1:Int) else z8);let z6:=((-9223372036854775808:Int)<=z0+z9/\z0+z9<=(9223372036854775807:Int));let z5:=((-9223372036854775808:Int)<=z0+z9+z9/\z0+z9+z9<=(9223372036854775807:Int));let z4:=(g.f (z0+z9).toNat);T3 (((True/\(True/\(A ((48:Go.FuncId)=(48:Go.FuncId))/\True/\A (z7=z7))/\True)/\(A (g.n=g.n)/\∀ i:Nat,i<g.n->(((True/\q2 ((g.f i).y))/\q2 ((g.f i).x0))/\q2 ((g.f i).x1))/\q2 ((g.f i).k))/\z1/\True)/\A g.Ok)/\T3 (Br (decide (z0=(-1:Int))) (T3 (True/\(True/\True)/\(A (g.n=z7)/\∀ i:Nat,i<z7->(((True/\q2 ((g.f i).y))/\q2 ((g.f i).x0))/\q2 ((g.f i).x1))/\q2 ((g.f i).k))/\z1/\True)) (True/\A z6/\T3 (True/\True/\Br (decide (z0+z9<z11)) (True/\True/\A (z8<=z0+z9/\z0+z9<z11)/\A ((z0+z9).toNat<g.n)/\T3 (True/\((True/\(((((True/\q2 z4.y)/\q2 z4.x0)/\q2 z4.x1)/\q2 z4.k)/\A (z7=z7)/\True)/\z1/\True)/\A True)/\True/\Br (!decide (z4.x1<=g.o.x0)) (T3 (A (z10/\z0<z11)/\A (z0.toNat<g.n)/\True/\A z6/\True/\True/\A z5/\True/\False)) (True/\A z5/\True/\False))) (True/\True/\A (z10/\z0<=K g.n/\K g.n<=K g.n/\K g.n<=z11)/\T3 (A (z8<=K z7/\(K z7<=if g.n=z7 then (-1:Int) else z8)/\z0<=K g.n/\K g.n<=z11)/\T3 ((True/\True)/\(A ((z0-K z7).toNat=z7)/\∀ i:Nat,let z3:=(z0.toNat<=i/\i<z0.toNat+(K g.n-if g.n=z7 then (-1:Int) else z8).toNat); i<z7->(((True/\A z2/\A ((bif decide z3 then z8 else (g.f i).y)=(g.f i).y))/\A z2/\A ((bif decide z3 then z8 else (g.f i).x0)=(g.f i).x0))/\A z2/\A ((bif decide z3 then z8 else (g.f i).x1)=(g.f i).x1))/\A z2/\A ((bif decide z3 then z8 else (g.f i).k)=(g.f i).k))/\z1/\True)))))))) ?_;simp only [cln,lF,lS];simp only [xg];obtain ⟨h1,h2⟩:=id hg;refine ⟨hg,fun h=>?_,fun h=>?_⟩
 ·by_cases hn:g.n=0
  ·exact hn
  ·rw [lr hn] at h; omega
 ·have hn:¬ g.n=0:=fun hn=>h (lm hn)
  simp only [lr hn];exact ⟨by omega,fun hc=>by omega,fun _=>⟨by omega,by omega,by omega,fun i hi=>absurd hi (ln _)⟩⟩
def seen (P:Pcs):Nat->List Int->Bool
 | 0,_=>false
 | i+1,l=>decide (l=kOf (P.ink i))||seen P i l
def bb2 (P:Pcs):Nat->List Int->Int
 | 0,_=>0
 | i+1,l=>bif decide (l=kOf (P.ink i)) then (i:Int) else bb2 P i l
noncomputable def sS (P:Pcs) (i:Nat):Ow:=oI (srt (alG P)) i
def ap1 (P:Pcs):Inv:=⟨Nat,fun k=>k<=P.n,fun k=>⟨[(0,pcS P),(3,.osl 0 0),(20,pcS P),(21,.int .i64 P.n),(22,.int .i64 k)],[rowO 0 (al P k).length (oI (al P k))]⟩,fun k=>P.n-k⟩
def ap2 (P:Pcs) (k:Nat):Inv:=⟨Nat,fun j=>k<P.n/\j<=P.m k,fun j=>⟨[(0,pcS P),(3,.osl 0 0),(4,.int .i64 k),(20,pcS P),(21,.int .i64 P.n),(22,.int .i64 k),(5,.own 1 0),(28,rgS ⟨P.m k,P.p k⟩),(29,.int .i64 (P.m k)),(30,.int .i64 j)],
 [rowO 0 (al P k++alr P k j).length (oI (al P k++alr P k j)),.cells 9 (pcC P k) 39]⟩,fun j=>P.m k-j⟩
def twS (P:Pcs):SO:= .row 0 P.n 1 (fun _ _=> .bool false) 4
noncomputable def ap3 (P:Pcs):Inv:=⟨Nat,fun i=>i<=(al P P.n).length,fun i=>⟨[(0,pcS P),(8,.osl 1 0),(9,.int .i64 (if i=0 then -1 else (sS P (i-1)).y)),(10,.osl 2 0),(47,.osl 0 0),(48,.int .i64 (al P P.n).length),(49,.int .i64 i)],
 [rowO 0 (al P P.n).length (sS P),twS P,rowO 0 (if i=0 then 0 else 1) (fun _=>sS P (i-1))]⟩,fun i=>(al P P.n).length-i⟩
def ap4 (P:Pcs):Inv:=⟨Nat,fun i=>i<=P.n,fun i=>⟨[(0,pcS P),(8,.osl 1 0),(15,.omap 3),(86,pcS P),(87,.int .i64 P.n),(88,.int .i64 i)],
 [.dead,twS P,.dead,.mpi (.arr 8 .u8) false (seen P i) (fun l=> .int .i64 (bb2 P i l))]⟩,fun i=>P.n-i⟩
noncomputable def bE7:FSpec:=ab0 29 (γ:=Pcs) (fun | [s]=>some (pcD s) | _=>none) (fun P=>[pcS P]) PcOK (fun _=> .int .i64 0)
theorem bS4:aa7 Tw.prog bE7:=by
 refine ssW (specs:=[Ows.ba9,bX7,bp0]) (⟨Ows.bj9,b90,bI0,trivial⟩) Tw.func29 (fun g=>(⟨[(3,.nest (ap1 g) (fun k=>[(6,.inv (ap2 g k))])),(16,.nest (ap3 g) (fun i=>[(22,.rounds 1)])),(30,.inv (ap4 g))],[(2,[.own 3 93 4]),(15,[.own 10 93 4]),(1000019,[.shrink 10])]⟩:Ann)) ?_;rintro P hP;refine ad5 (B:=let T2:=fun p:Prop=>True/\True/\p;let T8:=fun p:Prop=>True/\True/\True/\True/\True/\True/\True/\True/\p;let J:=Int.ofNat;let K:=Br;let A:=Aq;let z47:=(7:Nat);let z46:=(6:Nat);let z45:=(5:Nat);let z44:=(4:Nat);let z43:=(3:Nat);let z42:=(2:Nat);let z36:=(al P P.n);let z28:=(↑P.n:Int);let z27:=(1:Int);let z26:=(0:Int);let z22:=(-9223372036854775808:Int);let z19:=(↑z36.length:Int);let z18:=(9223372036854775807:Int);let z10:=(A (P.n=P.n)/\∀ i:Nat,i<P.n->True/\A (false=false));let z8:=(1:Nat);let z7:=(0:Nat);let z33:=(J z7-J z7);let z32:=(True/\(A ((48:Nat)=(48:Go.FuncId))/\True/\A (z7=z7))/\True);let z30:=(z7+z8<=(9223372036854775807:Nat)/\(z7+z8)*(32:Nat)<=(140737488355328:Nat));let z3:=(IntKind.u8=IntKind.u8);let q3:=fun p:Int=>A z3/\A (p=p);let z1:=(IntKind.i64=IntKind.i64);let q1:=fun p:Int=>A z1/\A (p=p);let z11:=(q1 z28);let z9:=(A (z36.length=z36.length)/\∀ i:Nat,i<z36.length->(((True/\q1 ((sS P i).y))/\q1 ((sS P i).x0))/\q1 ((sS P i).x1))/\q1 ((sS P i).k));let z0:=(A (P.n=P.n)/\∀ i:Nat,i<P.n->(chp (True/\A (P.m i=P.m i)/\∀ i_1:Nat,let z48:=(P.p i i_1); i_1<P.m i->((True/\q1 z48.y)/\q1 z48.x0)/\q1 z48.x1) (fun j:Nat=>q3 (P.ink i j)) 7)/\q3 (P.ink i z47));T2 (T2 (True/\(∃ g:Nat,A ((ap1 P).pre g)/\(z0/\True/\z0/\z11/\(A z1/\A (z26=(↑g:Int)))/\True)/\(A (z7=(al P g).length)/\∀ i:Nat,i<(al P g).length->(((True/\False)/\False)/\False)/\False)/\True)/\∀ g:Nat,let z39:=(↑(P.m g):Int);let z17:=(↑g:Int);let z31:=(q1 z17);let z13:=(al P g); (ap1 P).pre g->True/\K (decide (z17<z28)) (True/\A (z26<=z17/\z17<z28)/\T8 ((∃ g_1:Nat,let z23:=(al P g++alr P g g_1); A ((ap2 P g).pre g_1)/\(z0/\True/\z31/\z0/\z11/\z31/\A (z7=z7)/\(A (P.m z17.toNat=P.m g)/\∀ i:Nat,i<P.m g->((True/\A z1/\A ((P.p z17.toNat i).y=(P.p g i).y))/\A z1/\A ((P.p z17.toNat i).x0=(P.p g i).x0))/\A z1/\A ((P.p z17.toNat i).x1=(P.p g i).x1))/\(A z1/\A ((↑(P.m z17.toNat):Int)=z39))/\(A z1/\A (z26=(↑g_1:Int)))/\True)/\(A (z13.length=z23.length)/\∀ i:Nat,i<z23.length->(((True/\A z1/\A ((oI z13 i).y=(oI z23 i).y))/\A z1/\A ((oI z13 i).x0=(oI z23 i).x0))/\A z1/\A ((oI z13 i).x1=(oI z23 i).x1))/\A z1/\A ((oI z13 i).k=(oI z23 i).k))/\(((((((((True/\A (P.m z17.toNat=P.m g)/\∀ i:Nat,i<P.m g->((True/\A z1/\A ((P.p z17.toNat i).y=(P.p g i).y))/\A z1/\A ((P.p z17.toNat i).x0=(P.p g i).x0))/\A z1/\A ((P.p z17.toNat i).x1=(P.p g i).x1))/\A z3/\A (P.ink z17.toNat z7=P.ink g z7))/\A z3/\A (P.ink z17.toNat z8=P.ink g z8))/\A z3/\A (P.ink z17.toNat z42=P.ink g z42))/\A z3/\A (P.ink z17.toNat z43=P.ink g z43))/\A z3/\A (P.ink z17.toNat z44=P.ink g z44))/\A z3/\A (P.ink z17.toNat z45=P.ink g z45))/\A z3/\A (P.ink z17.toNat z46=P.ink g z46))/\A z3/\A (P.ink z17.toNat z47=P.ink g z47))/\True)/\∀ g_1:Nat,let z35:=(↑g_1:Int);let z5:=(al P g++alr P g g_1); (ap2 P g).pre g_1->True/\K (decide (z35<z39)) (A (z26<=z35/\z35<z39)/\T8 (A (z5.length+z8<=(9223372036854775807:Nat)/\(z5.length+z8)*(32:Nat)<=(140737488355328:Nat))/\True/\A (z22<=z35+z27/\z35+z27<=z18)/\True/\∃ (g':Nat),let z24:=(al P g++alr P g g'); A ((ap2 P g).pre g')/\((z0/\True/\z31/\z0/\z11/\z31/\A (z7=z7)/\(A (P.m g=P.m g)/\∀ i:Nat,i<P.m g->((True/\q1 ((P.p g i).y))/\q1 ((P.p g i).x0))/\q1 ((P.p g i).x1))/\(q1 z39)/\(A z1/\A (z35+z27=(↑g':Int)))/\True)/\(A (z5.length+z8=z24.length)/\∀ i:Nat,let z49:=(i<z5.length); i<z24.length->(((True/\A z1/\A ((bif decide z49 then (oI z5 i).y else (P.p g z35.toNat).y)=(oI z24 i).y))/\A z1/\A ((bif decide z49 then (oI z5 i).x0 else (P.p g z35.toNat).x0)=(oI z24 i).x0))/\A z1/\A ((bif decide z49 then (oI z5 i).x1 else (P.p g z35.toNat).x1)=(oI z24 i).x1))/\A z1/\A ((bif decide z49 then (oI z5 i).k else z17)=(oI z24 i).k))/\(chp (True/\A (P.m g=P.m g)/\∀ i:Nat,i<P.m g->((True/\q1 ((P.p g i).y))/\q1 ((P.p g i).x0))/\q1 ((P.p g i).x1)) (fun j:Nat=>q3 (P.ink g j)) 8)/\True)/\A ((ap2 P g).meas g'<(ap2 P g).meas g_1))) (A (z22<=z17+z27/\z17+z27<=z18)/\True/\∃ (g':Nat),A ((ap1 P).pre g')/\((z0/\True/\z0/\z11/\(A z1/\A (z17+z27=(↑g':Int)))/\True)/\(A (z5.length=(al P g').length)/\∀ i:Nat,let z37:=(oI (al P g') i); i<(al P g').length->(((True/\A z1/\A ((oI z5 i).y=z37.y))/\A z1/\A ((oI z5 i).x0=z37.x0))/\A z1/\A ((oI z5 i).x1=z37.x1))/\A z1/\A ((oI z5 i).k=z37.k))/\True)/\A ((ap1 P).meas g'<(ap1 P).meas g)))) (True/\((True/\(True/\(A ((45:Nat)=(45:Go.FuncId))/\True)/\True)/\(A (z13.length=z13.length)/\∀ i:Nat,let z34:=(oI z13 i); i<z13.length->(((True/\q1 z34.y)/\q1 z34.x0)/\q1 z34.x1)/\q1 z34.k)/\True)/\A ((∀ i:Nat,i<z13.length->okO (oI z13 i))/\z13.length<=(4294967296:Nat)))/\T2 (A (z26<=z28/\z28<=z28/\(↑z8:Int)*z28<=(140737488355328:Int)/\z28<=z18)/\T2 (T2 (T2 ((∃ g_1:Nat,A ((ap3 P).pre g_1)/\(z0/\True/\(A z1/\A ((-1:Int)=if g_1=z7 then (-1:Int) else (sS P (g_1-z8)).y))/\T2 ((A z1/\A ((↑z13.length:Int)=z19))/\(A z1/\A (z26=(↑g_1:Int)))/\True))/\(A (z13.length=z36.length)/\∀ i:Nat,let z20:=(oI (Ows.srt (Og.mk z13.length (oI z13))) i); i<z36.length->(((True/\A z1/\A (z20.y=(sS P i).y))/\A z1/\A (z20.x0=(sS P i).x0))/\A z1/\A (z20.x1=(sS P i).x1))/\A z1/\A (z20.k=(sS P i).k))/\(A (z28.toNat=P.n)/\∀ i:Nat,i<P.n->True/\A (false=false))/\(A (z7=if g_1=z7 then z7 else z8)/\∀ i:Nat,(i<if g_1=z7 then z7 else z8)->(((True/\False)/\False)/\False)/\False)/\True)/\∀ g:Nat,let z38:=(↑g:Int);let z29:=(if g=z7 then z7 else z8);let z25:=(sS P (g-z8));let z16:=(((True/\q1 z25.y)/\q1 z25.x0)/\q1 z25.x1);let z2:=(sS P z38.toNat);let z21:=((((True/\q1 z2.y)/\q1 z2.x0)/\q1 z2.x1)/\q1 z2.k); (ap3 P).pre g->True/\K (decide (z38<z19)) (A (z26<=z38/\z38<z19)/\A (z38.toNat<z36.length)/\T2 (T2 (T2 (True/\K (decide (z2.y≠if g=z7 then (-1:Int) else z25.y)) (True/\A (z26<=J z7/\J z7<=J z7/\J z7<=J z29/\J z29<=(↑z29:Int))/\T2 (T2 (T2 (True/\((True/\z32/\(A (z33.toNat=z33.toNat)/\∀ i:Nat,i<z33.toNat->z16/\q1 z25.k)/\z21/\True)/\A (DlG.mk z33.toNat (fun (x:Nat)=>sS P (g-z8)) z2).Ok)/\T8 (A z30/\True/\A (z22<=z38+z27/\z38+z27<=z18)/\True/\∃ (g':Nat),let z40:=(sS P (g'-z8)); A ((ap3 P).pre g')/\((z0/\True/\(A z1/\A (z2.y=if g'=z7 then (-1:Int) else z40.y))/\T2 ((q1 z19)/\(A z1/\A (z38+z27=(↑g':Int)))/\True))/\z9/\z10/\(A (z7+z8=if g'=z7 then z7 else z8)/\∀ i:Nat,(i<if g'=z7 then z7 else z8)->(((True/\A z1/\A (z2.y=z40.y))/\A z1/\A (z2.x0=z40.x0))/\A z1/\A (z2.x1=z40.x1))/\A z1/\A (z2.k=z40.k))/\True)/\A ((ap3 P).meas g'<(ap3 P).meas g)))))) (T2 (((True/\z32/\(A (z29=if g=z7 then z7 else z8)/\∀ i:Nat,(i<if g=z7 then z7 else z8)->z16/\q1 z25.k)/\z21/\True)/\A (DlG.mk z29 (fun (x:Nat)=>sS P (g-z8)) z2).Ok)/\T8 (A z30/\True/\A (z22<=z38+z27/\z38+z27<=z18)/\True/\∃ (g':Nat),let z41:=(sS P (g'-z8)); A ((ap3 P).pre g')/\((z0/\True/\(A z1/\A ((if g=z7 then (-1:Int) else z25.y)=if g'=z7 then (-1:Int) else z41.y))/\T2 ((q1 z19)/\(A z1/\A (z38+z27=(↑g':Int)))/\True))/\z9/\z10/\(A (z7+z8=if g'=z7 then z7 else z8)/\∀ i:Nat,(i<if g'=z7 then z7 else z8)->(((True/\A z1/\A (z2.y=z41.y))/\A z1/\A (z2.x0=z41.x0))/\A z1/\A (z2.x1=z41.x1))/\A z1/\A (z2.k=z41.k))/\True)/\A ((ap3 P).meas g'<(ap3 P).meas g)))))))) (T2 (T2 (True/\(∃ g:Nat,A ((ap4 P).pre g)/\(z0/\T2 (z0/\z11/\(A z1/\A (z26=(↑g:Int)))/\True))/\True/\z10/\True/\(∀ (l:List Int),l.length=(8:Nat)->A (false=seen P g l)/\((seen P g l||false)=true->False))/\True)/\∀ g:Nat,let z4:=(↑g:Int);let z12:=(P.p z4.toNat (Int.toNat z26));let z6:=(P.p (z4-z27).toNat (Int.toNat z26)); (ap4 P).pre g->True/\K (decide (z4<z28)) (True/\A (z26<=z4/\z4<z28)/\T8 (T2 (T2 (T2 (True/\K (seen P g [P.ink z4.toNat z7,P.ink z4.toNat z8,P.ink z4.toNat z42,P.ink z4.toNat z43,P.ink z4.toNat z44,P.ink z4.toNat z45,P.ink z4.toNat z46,P.ink z4.toNat z47]) (T2 (True/\A z1/\A ((7:Int)=z26))) (T2 (A (z26<=z4/\z4<z28)/\A (z4.toNat<P.n)/\T8 (True/\K (decide (z26<z4)) (T2 (A (z26<=z26/\z26<(↑(P.m z4.toNat):Int))/\T2 (True/\A (z22<=z4-z27/\z4-z27<=z18)/\A (z26<=z4-z27/\z4-z27<z28)/\T2 (A (z26<=z26/\z26<(↑(P.m (z4-z27).toNat):Int))/\True/\(((((True/\q1 z12.y)/\q1 z12.x0)/\q1 z12.x1)/\(((True/\q1 z6.y)/\q1 z6.x0)/\q1 z6.x1)/\True)/\A True)/\True/\K (decide (z12.y<z6.y)||decide (z12.y=z6.y)&&decide (z12.x0<z6.x0)) (T2 (A z1/\A ((18:Int)=z26))) (A (z22<=z4+z27/\z4+z27<=z18)/\True/\∃ (g':Nat),A ((ap4 P).pre g')/\((z0/\T2 (z0/\z11/\(A z1/\A (z4+z27=(↑g':Int)))/\True))/\True/\z10/\True/\(∀ (l:List Int),let z14:=(l=[P.ink z4.toNat z7,P.ink z4.toNat z8,P.ink z4.toNat z42,P.ink z4.toNat z43,P.ink z4.toNat z44,P.ink z4.toNat z45,P.ink z4.toNat z46,P.ink z4.toNat z47]); l.length=(8:Nat)->A ((decide z14||seen P g l)=seen P g' l)/\((seen P g' l||false)=true->A z1/\A ((bif decide z14 then z4 else bb2 P g l)=bb2 P g' l)))/\True)/\A ((ap4 P).meas g'<(ap4 P).meas g)))))) (True/\A (z22<=z4+z27/\z4+z27<=z18)/\True/\∃ (g':Nat),A ((ap4 P).pre g')/\((z0/\T2 (z0/\z11/\(A z1/\A (z4+z27=(↑g':Int)))/\True))/\True/\z10/\True/\(∀ (l:List Int),let z15:=(l=[P.ink z4.toNat z7,P.ink z4.toNat z8,P.ink z4.toNat z42,P.ink z4.toNat z43,P.ink z4.toNat z44,P.ink z4.toNat z45,P.ink z4.toNat z46,P.ink z4.toNat z47]); l.length=(8:Nat)->A ((decide z15||seen P g l)=seen P g' l)/\((seen P g' l||false)=true->A z1/\A ((bif decide z15 then z4 else bb2 P g l)=bb2 P g' l)))/\True)/\A ((ap4 P).meas g'<(ap4 P).meas g)))))))))) (T2 (q1 z26))))))))))))) ?_;simp only [chp];simp only [cln,lF,lS];simp only [xg,br4];have hn:=hP.n;have htot:=hP.tot;have rows:∀ {L M:List Ow},L=M->L.length=M.length/\∀ i,i<M.length->(((oI L i).y=(oI M i).y/\(oI L i).x0=(oI M i).x0)/\(oI L i).x1=(oI M i).x1)/\(oI L i).k=(oI M i).k:=by
  rintro L M rfl;exact ⟨rfl,fun _ _=>⟨⟨⟨rfl,rfl⟩,rfl⟩,rfl⟩⟩
 have happ:∀ (L:List Ow) (o:Ow) i,i<(L++[o]).length->oI (L++[o]) i=bif decide (i<L.length) then oI L i else o:=fun L o i hi=>by
  unfold oI;rw [la,la];by_cases h:i<L.length
  ·rw [lj h,xe h]; rfl
  ·rw [lg h,lQ (by omega)];rw [lx,xG] at hi;rw [show i-L.length=0 by omega]; rfl
 have seenMem:∀ k l,seen P k l=true->∃ j,j<k/\l=kOf (P.ink j):=by
  intro k;induction k with
  | zero=>intro l h; cases h
  | succ k ih=>
   intro l h;have h:(decide (l=kOf (P.ink k))||seen P k l)=true:=h;rw [xd,lL] at h;rcases h with h | h
   ·exact ⟨k,by omega,h⟩
   ·obtain ⟨j,h1,h2⟩:=ih l h;exact ⟨j,by omega,h2⟩
 have nodup:∀ k,k<P.n->seen P k (kOf (P.ink k))=true->False:=fun k hk h=>by
  obtain ⟨j,h1,h2⟩:=seenMem _ _ h;exact hP.dist j k h1 hk h2.symm
 have nextP:∀ k:Nat,(k:Int)<P.n->(ap4 P).pre (k+1:Nat)/\((k:Int)+1=((k+1:Nat):Int)/\∀ l:List Int,l.length=8->(decide (l=kOf (P.ink k))||seen P k l)=seen P (k+1) l/\(seen P (k+1) l=true->(bif decide (l=kOf (P.ink k)) then (k:Int) else bb2 P k l)=bb2 P (k+1) l))/\(ap4 P).meas (k+1:Nat)<(ap4 P).meas k:=fun k hk=>
  ⟨by show k+1<=P.n; omega,⟨by simp,fun l _=>⟨rfl,fun _=>rfl⟩⟩,by show P.n-(k+1)<P.n-k; omega⟩
 refine ⟨⟨0,lC _,rfl,rfl,fun i hi=>absurd hi (ln _)⟩,fun k hk=>⟨fun hlt=>⟨by omega,⟨0,⟨by omega,lC _⟩,rfl,rows (uO _).symm⟩,fun j hj=>⟨fun hjl=>?_,fun hjg=>?_⟩⟩,fun hge=>?_⟩⟩
 ·have hkn:k<P.n:=by omega
  have hjm:j<P.m k:=by omega
  have hlen:(al P k++alr P k j).length+1<=4294967296:=by
   have h1:=a90 P (k+1) P.n hkn;have h2:(al P (k+1)).length=(al P k).length+P.m k:=by show (al P k++alr P k (P.m k)).length=_; rw [lx,am7]
   rw [lx,am7];omega
  have hm:P.m k<=4294967296:=by
   have h1:=a90 P (k+1) P.n hkn;have h2:(al P (k+1)).length=(al P k).length+P.m k:=by show (al P k++alr P k (P.m k)).length=_; rw [lx,am7]
   omega
  have e:al P k++alr P k (j+1)=(al P k++alr P k j)++[ow (P.p k j) k]:=by rw [bt0,xH]
  refine ⟨by omega,by omega,by omega,j+1,⟨hkn,hjm⟩,⟨by simp,?_⟩,by show P.m k-(j+1)<P.m k-j; omega⟩;rw [e];refine ⟨by simp [xc],fun i hi=>?_⟩;rw [happ _ _ i hi];cases decide (i<(al P k++alr P k j).length)<;>exact ⟨⟨⟨rfl,rfl⟩,rfl⟩,rfl⟩
 ·have hkn:k<P.n:=by omega
  have hjm:j<=P.m k:=hj.2;refine ⟨by omega,k+1,hkn,⟨by simp,rows ?_⟩,by show P.n-(k+1)<P.n-k; omega⟩;show _=al P k++alr P k (P.m k);rw [show P.m k=j by omega]
 ·have hkn:k=P.n:=by have:k<=P.n:=hk; omega
  subst hkn;have hsrt:∀ i,oI (srt { n:=(al P P.n).length,f:=oI (al P P.n) }) i=sS P i:=fun i=>rfl
  refine ⟨⟨fun i hi=>bV6 hP (br0 hi),by omega⟩,by omega,⟨0,lC _,⟨rfl,rfl,rfl⟩,⟨rfl,fun i _=>⟨⟨⟨rfl,rfl⟩,rfl⟩,rfl⟩⟩,rfl,fun i hi=>absurd hi (ln _)⟩,fun i hi=>⟨fun hil=>?_,fun hig=>⟨⟨0,lC _,rfl,fun l _=>⟨rfl,fun h=>by cases h⟩⟩,fun k hk hkl=>?_⟩⟩⟩
  ·have hil':i<(al P P.n).length:=by omega
   have e1:(if i+1=0 then 0 else 1:Nat)=1:=rfl;have next:∀ y:Int,y=(sS P i).y->(ap3 P).pre (i+1:Nat)/\(((y=if i+1=0 then -1 else (sS P (i+1-1)).y)/\(i:Int)+1=((i+1:Nat):Int))/\(1=if i+1=0 then 0 else 1)/\∀ j,(j<if i+1=0 then 0 else 1)->(((sS P i).y=(sS P (i+1-1)).y/\(sS P i).x0=(sS P (i+1-1)).x0)/\(sS P i).x1=(sS P (i+1-1)).x1)/\(sS P i).k=(sS P (i+1-1)).k)/\(ap3 P).meas (i+1:Nat)<(ap3 P).meas i:=fun y hy=>
    ⟨hil',⟨⟨by rw [lr (by omega),Nat.add_sub_cancel]; exact hy,by simp⟩,rfl,fun j _=>by rw [Nat.add_sub_cancel]; exact ⟨⟨⟨rfl,rfl⟩,rfl⟩,rfl⟩⟩,by show (al P P.n).length-(i+1)<(al P P.n).length-i; omega⟩
   refine ⟨by omega,hil',fun hne=>⟨⟨by omega,by omega,by split<;>omega,by omega⟩,⟨lC _,fun j hj=>absurd hj (ln _)⟩,by omega,by omega,i+1,next _ rfl⟩,fun heq=>?_⟩;have heq:=Decidable.not_not.1 heq;have hS:=Ows.aq4 (alG P);have ymem:∀ j,j<(al P P.n).length->okO (sS P j):=fun j hj=>by
    have hp:(Ows.srt (alG P)).Perm (al P P.n):=by have:=Ows.al0 (alG P); rwa [cp2] at this
    exact bV6 hP (hp.mem_iff.1 (br0 (by rw [hS]; exact hj)))
   refine ⟨⟨by show (if i=0 then 0 else 1)<=1; split<;>omega,fun j hj=>?_⟩,by omega,by omega,i+1,next _ heq.symm⟩;have hi0:i≠0:=fun h0=>by
    have hj:j<if i=0 then 0 else 1:=hj
    rw [lm h0] at hj;omega
   rw [lr hi0] at heq;have:=bD7 hP (i:=i-1) (by omega) (by rw [show i-1+1=i by omega]; exact heq.symm)
   rw [show i-1+1=i by omega] at this;exact this
  ·have hkn:k<P.n:=by omega
   have hne:=hP.ne k hkn;refine ⟨by omega,fun h=>(nodup k hkn h).elim,fun _=>⟨by omega,hkn,fun h0=>?_,fun h0=>⟨by omega,k+1,nextP k hkl⟩⟩⟩;have ek:((k:Int)-1).toNat=k-1:=by omega
   rw [ek];have hne2:=hP.ne (k-1) (by omega);have ho:=hP.ord (k-1) (by omega);rw [show k-1+1=k by omega] at ho;refine ⟨by omega,by omega,by omega,by omega,fun h=>?_,fun _=>⟨by omega,k+1,nextP k hkl⟩⟩;rw [xd,lu,lL,lL,lL] at h;have h:(P.p k 0).y<(P.p (k-1) 0).y\/(P.p k 0).y=(P.p (k-1) 0).y/\(P.p k 0).x0<(P.p (k-1) 0).x0:=h;omega
structure ChG where
 w:Nat
 h:Nat
 P:Pcs
structure ChG.Ok (g:ChG):Prop where
 w:1<=g.w/\g.w<=256
 h:1<=g.h/\g.h<=256
 P:PcOK g.P
 nz:∀ k,k<g.P.n->kOf (g.P.ink k)≠nul
 r:∀ k r,k<g.P.n->r<g.P.m k->(0<=(g.P.p k r).y/\(g.P.p k r).y<16*g.h)/\0<=(g.P.p k r).x0/\(g.P.p k r).x1<=16*g.w
def ch1 (g:ChG):Inv:=⟨Nat,fun k=>k<=g.P.n,fun k=>⟨[(0,.int .i64 g.w),(1,.int .i64 g.h),(2,pcS g.P),(19,pcS g.P),(20,.int .i64 g.P.n),(21,.int .i64 k)],[]⟩,fun k=>g.P.n-k⟩
def ch2 (g:ChG) (k:Nat):Inv:=⟨Nat,fun j=>k<g.P.n/\j<=g.P.m k,fun j=>⟨[(0,.int .i64 g.w),(1,.int .i64 g.h),(2,pcS g.P),(19,pcS g.P),(20,.int .i64 g.P.n),(21,.int .i64 k),(8,.own 0 0),(36,rgS ⟨g.P.m k,g.P.p k⟩),(37,.int .i64 (g.P.m k)),(38,.int .i64 j)],
 [.cells 9 (pcC g.P k) 39]⟩,fun j=>g.P.m k-j⟩
noncomputable def aJ8:FSpec:=ab0 13 (γ:=ChG) (fun | [.int _ w,.int _ h,s]=>some ⟨w.toNat,h.toNat,pcD s⟩ | _=>none) (fun g=>[.int .i64 g.w,.int .i64 g.h,pcS g.P]) ChG.Ok (fun _=> .int .i64 0)
theorem aN5:aa7 Tw.prog aJ8:=by
 refine aD5 (specs:=[bi9,aA0,bE7]) (at7 ⟨bq6,aA7,bS4,trivial⟩) (eqs:=eqI) (all_eq bs0) Aff.mixed Tw.func13 rfl (by kernel_rfl) (fun _ _=>by kernel_rfl)
  (fun g=>(⟨[(6,.nest (ch1 g) (fun k=>[(14,.inv (ch2 g k))]))],[]⟩:Ann)) (fun g=>lN (by kernel_rfl)) ?_
 rintro g hg;refine ad5 (B:=let T3:=fun p:Prop=>True/\True/\True/\p;let T5:=fun p:Prop=>True/\True/\True/\True/\True/\p;let T7:=fun p:Prop=>True/\True/\True/\True/\True/\True/\True/\p;let K:=Br;let A:=Aq;let z22:=(1:Int);let z21:=(↑g.P.n:Int);let z15:=(↑g.w:Int);let z14:=(↑g.h:Int);let z13:=(0:Nat);let z11:=(9223372036854775807:Int);let z9:=(-9223372036854775808:Int);let z7:=(0:Int);let z16:=((3:Int)=z7);let z2:=(IntKind.u8=IntKind.u8);let q2:=fun p:Int=>A z2/\A (p=p);let z1:=(IntKind.i64=IntKind.i64);let q1:=fun p:Int=>A z1/\A (p=p);let z23:=(True/\True/\A z1/\A z16);let z6:=(q1 z21);let z5:=(q1 z14);let z4:=(q1 z15);let z0:=(A (g.P.n=g.P.n)/\∀ i:Nat,i<g.P.n->(chp (True/\A (g.P.m i=g.P.m i)/\∀ i_1:Nat,let z18:=(g.P.p i i_1); i_1<g.P.m i->((True/\q1 z18.y)/\q1 z18.x0)/\q1 z18.x1) (fun j:Nat=>q2 (g.P.ink i j)) 7)/\q2 (g.P.ink i (7:Nat)));T3 (((z4/\z5/\True)/\A True)/\True/\K (!(decide (z22<=z15)&&(decide (z15<=(256:Int))&&(decide (z22<=z14)&&decide (z14<=(256:Int)))))) z23 (T3 (K (decide ((4096:Int)<z21)) (True/\True/\A z1/\A ((2:Int)=z7)) (T3 ((∃ g_1:Nat,A ((ch1 g).pre g_1)/\(z4/\z5/\z0/\z0/\z6/\(A z1/\A (z7=(↑g_1:Int)))/\True)/\True)/\∀ g_1:Nat,let z12:=(↑(g.P.m g_1):Int);let z3:=(↑g_1:Int); (ch1 g).pre g_1->True/\K (decide (z3<z21)) (A (z7<=z3/\z3<z21)/\T5 ((((A (g.P.m z3.toNat=g.P.m z3.toNat)/\∀ i:Nat,let z10:=(g.P.p z3.toNat i); i<g.P.m z3.toNat->((True/\q1 z10.y)/\q1 z10.x0)/\q1 z10.x1)/\True)/\A (vld (Rg.mk (g.P.m z3.toNat) (g.P.p z3.toNat)).L/\g.P.m z3.toNat<=(4294967296:Nat)))/\T7 (K (decide ((↑(g.P.m z3.toNat):Int)=z7)) (True/\True/\A z1/\A ((8:Int)=z7)) (T3 (True/\(∃ g_2:Nat,A ((ch2 g g_1).pre g_2)/\(z4/\z5/\z0/\z0/\z6/\(q1 z3)/\A (z13=z13)/\(A (g.P.m z3.toNat=g.P.m g_1)/\∀ i:Nat,i<g.P.m g_1->((True/\A z1/\A ((g.P.p z3.toNat i).y=(g.P.p g_1 i).y))/\A z1/\A ((g.P.p z3.toNat i).x0=(g.P.p g_1 i).x0))/\A z1/\A ((g.P.p z3.toNat i).x1=(g.P.p g_1 i).x1))/\(A z1/\A ((↑(g.P.m z3.toNat):Int)=z12))/\(A z1/\A (z7=(↑g_2:Int)))/\True)/\(((((((((True/\A (g.P.m z3.toNat=g.P.m g_1)/\∀ i:Nat,i<g.P.m g_1->((True/\A z1/\A ((g.P.p z3.toNat i).y=(g.P.p g_1 i).y))/\A z1/\A ((g.P.p z3.toNat i).x0=(g.P.p g_1 i).x0))/\A z1/\A ((g.P.p z3.toNat i).x1=(g.P.p g_1 i).x1))/\A z2/\A (g.P.ink z3.toNat z13=g.P.ink g_1 z13))/\A z2/\A (g.P.ink z3.toNat (1:Nat)=g.P.ink g_1 (1:Nat)))/\A z2/\A (g.P.ink z3.toNat (2:Nat)=g.P.ink g_1 (2:Nat)))/\A z2/\A (g.P.ink z3.toNat (3:Nat)=g.P.ink g_1 (3:Nat)))/\A z2/\A (g.P.ink z3.toNat (4:Nat)=g.P.ink g_1 (4:Nat)))/\A z2/\A (g.P.ink z3.toNat (5:Nat)=g.P.ink g_1 (5:Nat)))/\A z2/\A (g.P.ink z3.toNat (6:Nat)=g.P.ink g_1 (6:Nat)))/\A z2/\A (g.P.ink z3.toNat (7:Nat)=g.P.ink g_1 (7:Nat)))/\True)/\∀ g_2:Nat,let z17:=(↑g_2:Int);let z8:=(g.P.p g_1 z17.toNat); (ch2 g g_1).pre g_2->True/\K (decide (z17<z12)) (A (z7<=z17/\z17<z12)/\T7 (K (decide (z8.y<z7)) (T7 (A z1/\A z16)) (T3 (A (z9<=(16:Int)*z14/\(16:Int)*z14<=z11)/\T3 (K (decide ((16:Int)*z14<=z8.y)) (T5 (A z1/\A z16)) (T5 (K (decide (z8.x0<z7)) (T3 (A z1/\A z16)) (T3 (A (z9<=(16:Int)*z15/\(16:Int)*z15<=z11)/\True/\True/\K (decide ((16:Int)*z15<z8.x1)) z23 (A (z9<=z17+z22/\z17+z22<=z11)/\True/\∃ (g':Nat),A ((ch2 g g_1).pre g')/\((z4/\z5/\z0/\z0/\z6/\(q1 z3)/\A (z13=z13)/\(A (g.P.m g_1=g.P.m g_1)/\∀ i:Nat,let z19:=(g.P.p g_1 i); i<g.P.m g_1->((True/\q1 z19.y)/\q1 z19.x0)/\q1 z19.x1)/\(q1 z12)/\(A z1/\A (z17+z22=(↑g':Int)))/\True)/\(chp (True/\A (g.P.m g_1=g.P.m g_1)/\∀ i:Nat,let z20:=(g.P.p g_1 i); i<g.P.m g_1->((True/\q1 z20.y)/\q1 z20.x0)/\q1 z20.x1) (fun j:Nat=>q2 (g.P.ink g_1 j)) 8)/\True)/\A ((ch2 g g_1).meas g'<(ch2 g g_1).meas g_2))))))))))) (T3 (True/\K (decide (g.P.ink g_1 z13=z7)&&(decide (g.P.ink g_1 (1:Nat)=z7)&&(decide (g.P.ink g_1 (2:Nat)=z7)&&(decide (g.P.ink g_1 (3:Nat)=z7)&&(decide (g.P.ink g_1 (4:Nat)=z7)&&(decide (g.P.ink g_1 (5:Nat)=z7)&&(decide (g.P.ink g_1 (6:Nat)=z7)&&(decide (g.P.ink g_1 (7:Nat)=z7)&&true)))))))) (True/\True/\A z1/\A ((4:Int)=z7)) (A (z9<=z3+z22/\z3+z22<=z11)/\True/\∃ (g':Nat),A ((ch1 g).pre g')/\((z4/\z5/\z0/\z0/\z6/\(A z1/\A (z3+z22=(↑g':Int)))/\True)/\True)/\A ((ch1 g).meas g'<(ch1 g).meas g_1))))))))) (True/\((z0/\True)/\A (PcOK g.P))/\True/\True/\q1 z7))))))) ?_;simp only [chp];simp only [cln,lF,lS];simp only [Nat.reduceAdd,zer,lL,xR];have hw:=hg.w;have hh:=hg.h;have hn:=hg.P.n;have hsz:(decide (1<=(g.w:Int))&&(decide ((g.w:Int)<=256)&&(decide (1<=(g.h:Int))&&decide ((g.h:Int)<=256))))=true:=by
  simp only [lu,lL]; omega
 refine ⟨fun h=>(by rw [hsz] at h; cases h),fun _=>⟨fun h=>by omega,fun _=>⟨⟨0,lC _,rfl⟩,fun k hk=>⟨fun hlt=>?_,fun _=>hg.P⟩⟩⟩⟩;have hkn:k<g.P.n:=by omega
 have hv:=hg.P.v k hkn;have hl:=ar9 hv;have hm:g.P.m k<=300000000:=by
  have e:(Pcs.L g.P k).length=g.P.m k:=aw3 _ _;rwa [e] at hl
 have hne:=hg.P.ne k hkn;refine ⟨by omega,⟨hv,by omega⟩,fun h=>by omega,fun _=>⟨⟨0,⟨hkn,lC _⟩,rfl⟩,fun j hj=>⟨fun hjl=>?_,fun _=>⟨fun h=>absurd h (hg.nz k hkn),fun _=>⟨by omega,k+1,hkn,by omega,by show g.P.n-(k+1)<g.P.n-k; omega⟩⟩⟩⟩⟩;have hr:=hg.r k j hkn (by omega);exact ⟨by omega,fun h=>by omega,fun _=>⟨by omega,fun h=>by omega,fun _=>⟨fun h=>by omega,fun _=>⟨by omega,fun h=>by omega,fun _=>⟨by omega,j+1,⟨hkn,by omega⟩,by omega,by show g.P.m k-(j+1)<g.P.m k-j; omega⟩⟩⟩⟩⟩
end Apt
end Go.Proofs.YtbkgncikjhibiaaGreat
