/- Part 6 of the texts that the law's proof leans on. -/
import Derived.Test.YtmhofgchidojoaaGreatM5
import Derived.Shelf.Small.Bits
import Derived.Shelf.Strconv.Itoa0
import Derived.Test.YtmhofgchidojoaaGreatProg
import Derived.Lib.ItoaNum
set_option linter.unusedSimpArgs false
set_option linter.unusedVariables false
namespace Go.Proofs.YtmhofgchidojoaaGreat.Aff
open Go.RowKit Sx Num
set_option maxRecDepth 100000
theorem mixed:Tryz.prog.follows .mixedOrders=true:=by kernel_rfl
structure Mat where
 a:Int
 b:Int
 c:Int
 d:Int
 e:Int
 f:Int
def inR (x m:Int):Bool:=decide (-m<=x)&&decide (x<=m)
def Mat.ok (m:Mat):Bool:=inR m.a 1048576&&(inR m.b 1048576&&(inR m.c 1048576&&(inR m.d 1048576&&(inR m.e 268435456&&inR m.f 268435456))))
def Mat.imgX (m:Mat) (x y:Int):Int:=nr (m.a*x+m.c*y+m.e) 4096
def Mat.imgY (m:Mat) (x y:Int):Int:=nr (m.b*x+m.d*y+m.f) 4096
def Mat.appE (m:Mat) (x y:Int):Int:=
 if m.ok=false then 3 else if (inR x 32767&&inR y 32767)=false then 3 else if (inR (m.imgX x y) 32767&&inR (m.imgY x y) 32767)=false then 10 else 0
def spQuo:FSpec:=mkSpec 66 (γ:=Int×Int) (fun | [.int _ x,.int _ m]=>some (x,m) | _=>none) (fun g=>[.int .i64 g.1,.int .i64 g.2]) (fun g=>(-4611686018427387904<=g.1/\g.1<=4611686018427387904)/\1<=g.2/\g.2<=9223372036854775807) (fun g=> .int .i64 (g.1 / g.2))
theorem ok_quo:SpecOK Tryz.prog spQuo:=by
 refine spec_sound (specs:=[]) (all_ok trivial) (eqs:=[]) (fun _ _ h=>(List.not_mem_nil h).elim) mixed Tryz.func66 rfl (by kernel_rfl) (fun _ _=>by kernel_rfl) (fun _=>A0) (fun g=>Nat.le_of_ble_eq_true (by kernel_rfl)) ?_
 rintro ⟨a,b⟩ ⟨⟨h1,h2⟩,h3,h4⟩
 simp only at h1 h2 h3 h4
 have t1:=tdiv_bounds a b h3
 have t2:=tmod_neg_of a b h3
 have t3:=tmod_nonneg_of a b h3
 have t4:=quo_bounds a b h3
 refine vc_of (B:=let K:=IntKind.i64;let A:=Sx.Ask;True/\True/\True/\A (b≠(0:Int)/\(-9223372036854775808:Int)<=a.tdiv b/\a.tdiv b<=(9223372036854775807:Int))/\True/\True/\True/\A (b≠(0:Int))/\True/\Sx.Br (decide (a.tmod b<(0:Int))) (True/\A ((-9223372036854775808:Int)<=a.tdiv b-(1:Int)/\a.tdiv b-(1:Int)<=(9223372036854775807:Int))/\True/\True/\True/\True/\A (K=K)/\A (a.tdiv b-(1:Int)=a / b)) (True/\True/\True/\A (K=K)/\A (a.tdiv b=a / b))) (by kernel_rfl) ?_
 simp only [ask_iff,br_iff,true_and,and_true,decide_eq_true_eq,decide_eq_false_iff_not]
 refine ⟨by omega,by omega,fun h=>⟨by omega,(t2 h).1⟩,fun h=>t3 (by omega)⟩
def spNear:FSpec:=mkSpec 43 (γ:=Int×Int) (fun | [.int _ x,.int _ m]=>some (x,m) | _=>none) (fun g=>[.int .i64 g.1,.int .i64 g.2]) (fun g=>(-4611686018427387904<=g.1/\g.1<=4611686018427387904)/\1<=g.2/\g.2<=4611686018427387904) (fun g=> .int .i64 (nr g.1 g.2))
theorem ok_near:SpecOK Tryz.prog spNear:=by
 refine spec_sound (specs:=[spQuo]) (all_ok (⟨ok_quo,trivial⟩)) (eqs:=[]) (fun _ _ h=>(List.not_mem_nil h).elim) mixed Tryz.func43 rfl (by kernel_rfl) (fun _ _=>by kernel_rfl) (fun _=>A0) (fun g=>Nat.le_of_ble_eq_true (by kernel_rfl)) ?_
 rintro ⟨a,b⟩ ⟨⟨h1,h2⟩,h3,h4⟩
 simp only at h1 h2 h3 h4
 have q1:=quo_spec a b h3
 have q2:=quo_bounds a b h3
 refine vc_of (B:=let A:=Sx.Ask;let z2:=(IntKind.i64=IntKind.i64);let z1:=(-9223372036854775808:Int);let z0:=(9223372036854775807:Int);True/\True/\True/\(((A z2/\A (a=a))/\(A z2/\A (b=b))/\True)/\A (((-4611686018427387904:Int)<=a/\a<=(4611686018427387904:Int))/\(1:Int)<=b/\b<=z0))/\True/\True/\True/\True/\A (z1<=a / b*b/\a / b*b<=z0)/\A (z1<=a-a / b*b/\a-a / b*b<=z0)/\True/\True/\True/\True/\A (z1<=b-(a-a / b*b)/\b-(a-a / b*b)<=z0)/\True/\Sx.Br (decide (b-(a-a / b*b)<=a-a / b*b)) (True/\A (z1<=a / b+(1:Int)/\a / b+(1:Int)<=z0)/\True/\True/\True/\True/\A z2/\A (a / b+(1:Int)=nr a b)) (True/\True/\True/\A z2/\A (a / b=nr a b))) (by kernel_rfl) ?_
 simp only [ask_iff,br_iff,true_and,and_true,decide_eq_true_eq,decide_eq_false_iff_not]
 generalize hq:a / b=q at *
 generalize hp:q*b=p at *
 refine ⟨by omega,by omega,by omega,by omega,fun h=>⟨by omega,?_⟩,fun h=>?_⟩
 ·subst hq; subst hp; first | exact nr_of_ge (of_decide_eq_true h) | exact nr_of_ge (by simpa using h)
 ·subst hq; subst hp; first | exact nr_of_lt (of_decide_eq_false h) | exact nr_of_lt (by simpa using h)
theorem mul_in {a x A X:Int}(h : -A<=a/\a<=A) (k : -X<=x/\x<=X) : -(A*X)<=a*x/\a*x<=A*X:=by
 have hA:0<=A:=by omega
 have hX:0<=X:=by omega
 have e:(a*x).natAbs<=(A*X).natAbs:=by
  rw [Int.natAbs_mul,Int.natAbs_mul]
  exact Nat.mul_le_mul (by omega) (by omega)
 have p:0<=A*X:=Int.mul_nonneg hA hX
 omega
def Mat.out (m n:Mat):Mat:=⟨nr (n.a*m.a+n.c*m.b) 4096,nr (n.b*m.a+n.d*m.b) 4096,nr (n.a*m.c+n.c*m.d) 4096,nr (n.b*m.c+n.d*m.d) 4096,nr (n.a*m.e+n.c*m.f) 4096+n.e,nr (n.b*m.e+n.d*m.f) 4096+n.f⟩
def sizeI (x:Int):Int:=if x<0-x then 0-x else x
theorem nr_mul (y:Int):nr (4096*y) 4096=y:=by
 have:=nr_spec (4096*y) 4096 (by omega)
 omega
end Go.Proofs.YtmhofgchidojoaaGreat.Aff
set_option linter.unusedSimpArgs false
set_option linter.unusedVariables false
namespace Go.Proofs.YtmhofgchidojoaaGreat.Con
open Go.RowKit Sx Num Aff
set_option maxRecDepth 100000
def absI (x:Int):Int:=if x<wrap64 (-x) then wrap64 (-x) else x
def aI (x:Int):Int:=if x<0 then -x else x
structure Pt where
 x:Int
 y:Int
def ptL (p:Pt):List SV:=[.int .i64 p.x,.int .i64 p.y]
def ptS (p:Pt):SV:= .agg 2 (lst (ptL p))
def ptD (g:Nat->SV):Pt:=⟨Sx.intOf (g 0),Sx.intOf (g 1)⟩
structure NrG where
 a:Pt
 m:Pt
 b:Pt
def Pt.in (p:Pt) (n:Int):Prop:=(-n<=p.x/\p.x<=n)/\ -n<=p.y/\p.y<=n
def nearP (g:NrG):Prop:=((min g.a.x g.b.x-1<=g.m.x/\g.m.x<=max g.a.x g.b.x+1)/\min g.a.y g.b.y-1<=g.m.y/\g.m.y<=max g.a.y g.b.y+1)/\
 aI ((g.b.x-g.a.x)*(g.m.y-g.a.y)-(g.b.y-g.a.y)*(g.m.x-g.a.x))<=max (max (aI (g.b.x-g.a.x)) (aI (g.b.y-g.a.y))) 1
instance (g:NrG):Decidable (nearP g):=by unfold nearP; infer_instance
structure Cur where
 x0:Int
 y0:Int
 x1:Int
 y1:Int
 x2:Int
 y2:Int
 w:Int
def inC (x:Int):Prop:= -32767<=x/\x<=32767
def Cur.ok (c:Cur):Prop:=((inC c.x0/\inC c.y0)/\inC c.x1/\inC c.y1)/\(inC c.x2/\inC c.y2)/\16<=c.w/\c.w<=4096
def sumC (w k n:Int):Int:=256*(n-k)*(n-k)+2*k*(n-k)*w+256*k*k
def atC (x0 x1 x2 w k n:Int):Int:=nr (256*(n-k)*(n-k)*x0+2*k*(n-k)*w*x1+256*k*k*x2) (sumC w k n)
def Cur.at (c:Cur) (k n:Int):Pt:=⟨atC c.x0 c.x1 c.x2 c.w k n,atC c.y0 c.y1 c.y2 c.w k n⟩
structure AtG where
 c:Cur
 k:Int
 n:Int
def AtG.ok (g:AtG):Prop:=g.c.ok/\(0<=g.k/\g.k<=g.n)/\1<=g.n/\g.n<=1024
theorem nr_between {x b lo hi:Int}(hb:1<=b) (h1:lo*b<=x) (h2:x<=hi*b):lo<=nr x b/\nr x b<=hi:=by
 have hs:=nr_spec x b hb
 generalize nr x b=m at *
 constructor
 ·refine Int.not_lt.1 fun hc=>?_
  have:(m+1)*b<=lo*b:=Int.mul_le_mul_of_nonneg_right (by omega) (by omega)
  rw [Int.add_mul] at this
  omega
 ·refine Int.not_lt.1 fun hc=>?_
  have:(hi+1)*b<=m*b:=Int.mul_le_mul_of_nonneg_right (by omega) (by omega)
  rw [Int.add_mul] at this
  omega
def midP (c:Cur) (n k:Int):Prop:=nearP ⟨c.at k n,c.at (2*k+1) (2*n),c.at (k+1) n⟩
instance (c:Cur) (n k:Int):Decidable (midP c n k):=by unfold midP; infer_instance
def flatB (c:Cur) (n:Int):Bool:=(List.range n.toNat).all fun k=>decide (midP c n k)
structure FlG where
 c:Cur
 n:Int
def divF:Nat->Cur->Int->Int
 | 0,_,n=>n
 | f+1,c,n=>if n<512 then bif flatB c n then n else divF f c (n*2) else n
def divN (c:Cur):Int:=divF 9 c 1
end Go.Proofs.YtmhofgchidojoaaGreat.Con
set_option linter.unusedSimpArgs false
set_option linter.unusedVariables false
namespace Go.Proofs.YtmhofgchidojoaaGreat.Rga
open Go.RowKit Sx Num Aff Con
set_option maxRecDepth 100000
structure Rn where
 y:Int
 x0:Int
 x1:Int
def rnL (r:Rn):List SV:=[.int .i64 r.y,.int .i64 r.x0,.int .i64 r.x1]
def rnD (g:Nat->SV):Rn:=⟨Sx.intOf (g 0),Sx.intOf (g 1),Sx.intOf (g 2)⟩
def rI (L:List Rn) (i:Nat):Rn:=L.getD i ⟨0,0,0⟩
structure Rg where
 n:Nat
 f:Nat->Rn
def Rg.L (g:Rg):List Rn:=(List.range g.n).map g.f
def rgS (g:Rg):SV:= .sl g.n 3 (fun i=>lst (rnL (g.f i)))
def runsS (L:List Rn):SV:= .sl L.length 3 (fun i=>lst (rnL (rI L i)))
def rgD:SV->Nat->Rn
 | .sl _ _ f=>fun i=>rnD (f i)
 | _=>fun _=>⟨0,0,0⟩
theorem Rg.L_of (L:List Rn):Rg.L ⟨L.length,rI L⟩=L:=by
 unfold Rg.L
 apply List.ext_getElem
 ·simp
 ·intro i h1 h2
  simp [rI,List.getD_eq_getElem?_getD,List.getElem?_eq_getElem h2]
theorem Rg.len (g:Rg):g.L.length=g.n:=by simp [Rg.L]
theorem Rg.rI {g:Rg}{i:Nat}(h:i<g.n):rI g.L i=g.f i:=by
 simp [Rga.rI,Rg.L,List.getD_eq_getElem?_getD,h]
def okR (r:Rn):Prop:=((-8192<=r.y/\r.y<8192)/\(-8192<=r.x0/\r.x0<=8192)/\ -8192<=r.x1/\r.x1<=8192)/\r.x0<r.x1
def ltR (r s:Rn):Prop:=r.y<s.y\/(r.y=s.y/\r.x1<s.x0)
def vld (L:List Rn):Prop:=(∀ r∈L,okR r)/\L.Pairwise ltR
def spPermitted:FSpec:=mkSpec 61 (γ:=Int) (fun | [.int _ x]=>some x | _=>none) (fun x=>[.int .i64 x]) (fun _=>True) (fun x=> .bool (decide (-8192<=x)&&decide (x<8192)))
theorem ok_permitted:SpecOK Tryz.prog spPermitted:=by
 refine spec_sound (specs:=[]) (all_ok trivial) (eqs:=[]) (fun _ _ h=>(List.not_mem_nil h).elim) Aff.mixed Tryz.func61 rfl (by kernel_rfl) (fun _ _=>by kernel_rfl) (fun g=>A0) (fun g=>Nat.le_of_ble_eq_true (by kernel_rfl)) ?_
 rintro x hx
 refine vc_of (B:=let z0:=(decide ((-8192:Int)<=x)&&decide (x<(8192:Int)));True/\True/\True/\True/\Sx.Br (decide ((-8192:Int)<=x)) (True/\True/\True/\True/\True/\Sx.Ask (decide (x<(8192:Int))=z0)) (True/\True/\True/\Sx.Ask (false=z0))) (by kernel_rfl) ?_
 simp only [ask_iff,br_iff,eq_self,true_and,and_true,implies_true,forall_const,decide_eq_true_eq,decide_eq_false_iff_not,ne_eq,Nat.mul_one,Nat.add_zero,Nat.zero_add]
 refine ⟨fun h=>?_,fun h=>?_⟩
 ·rw [decide_eq_true h]; rfl
 ·rw [decide_eq_false h]; rfl
def spBorder:FSpec:=mkSpec 62 (γ:=Int) (fun | [.int _ x]=>some x | _=>none) (fun x=>[.int .i64 x]) (fun _=>True) (fun x=> .bool (decide (-8192<=x)&&decide (x<=8192)))
theorem ok_border:SpecOK Tryz.prog spBorder:=by
 refine spec_sound (specs:=[]) (all_ok trivial) (eqs:=[]) (fun _ _ h=>(List.not_mem_nil h).elim) Aff.mixed Tryz.func62 rfl (by kernel_rfl) (fun _ _=>by kernel_rfl) (fun g=>A0) (fun g=>Nat.le_of_ble_eq_true (by kernel_rfl)) ?_
 rintro x hx
 refine vc_of (B:=let z0:=(decide ((-8192:Int)<=x)&&decide (x<=(8192:Int)));True/\True/\True/\True/\Sx.Br (decide ((-8192:Int)<=x)) (True/\True/\True/\True/\True/\Sx.Ask (decide (x<=(8192:Int))=z0)) (True/\True/\True/\Sx.Ask (false=z0))) (by kernel_rfl) ?_
 simp only [ask_iff,br_iff,eq_self,true_and,and_true,implies_true,forall_const,decide_eq_true_eq,decide_eq_false_iff_not,ne_eq,Nat.mul_one,Nat.add_zero,Nat.zero_add]
 refine ⟨fun h=>?_,fun h=>?_⟩
 ·rw [decide_eq_true h]; rfl
 ·rw [decide_eq_false h]; rfl
def ckInv (g:Rg):Inv:=⟨Int,fun i=>0<=i/\i<=g.n,fun i=>⟨[(0,rgS g),(5,rgS g),(6,.int .i64 g.n),(7,.int .i64 i)],[]⟩,fun i=>(g.n-i).toNat⟩
def spCheckR:FSpec:=mkSpec 40 (γ:=Rg) (fun | [s]=>some ⟨slLen s,rgD s⟩ | _=>none) (fun g=>[rgS g]) (fun g=>vld g.L/\g.n<=4294967296) (fun _=> .int .i64 0)
theorem ok_checkR:SpecOK Tryz.prog spCheckR:=by
 refine spec_sound (specs:=[spPermitted,spBorder]) (all_ok (⟨ok_permitted,ok_border,trivial⟩)) (eqs:=[]) (fun _ _ h=>(List.not_mem_nil h).elim) Aff.mixed Tryz.func40 rfl (by kernel_rfl) (fun _ _=>by kernel_rfl) (fun g=>(⟨[(2,.inv (ckInv g))],[]⟩:Ann)) (fun g=>Nat.le_of_ble_eq_true (by kernel_rfl)) ?_
 rintro g hg
 refine vc_of (B:=let K:=Sx.Br;let A:=Sx.Ask;let z11:=(↑g.n:Int);let z9:=(ckInv g);let z8:=(1:Int);let z7:=(0:Int);let z1:=(IntKind.i64=IntKind.i64);let z5:=(A z1/\A (z11=z11));let z0:=(A (g.n=g.n)/\∀ i:Nat,i<g.n->((True/\A z1/\A ((g.f i).y=(g.f i).y))/\A z1/\A ((g.f i).x0=(g.f i).x0))/\A z1/\A ((g.f i).x1=(g.f i).x1));True/\True/\True/\True/\(∃ g_1:Int,A (z9.pre g_1)/\(z0/\z0/\z5/\(A z1/\A (z7=g_1))/\True)/\True)/\∀ g_1:Int,let z10:=(g.f (g_1-z8).toNat);let z6:=(z7<=g_1-z8/\g_1-z8<z11);let z4:=(g.f g_1.toNat);let z3:=((-9223372036854775808:Int)<=g_1+z8/\g_1+z8<=(9223372036854775807:Int));let z2:=((-9223372036854775808:Int)<=g_1-z8/\g_1-z8<=(9223372036854775807:Int)); z9.pre g_1->True/\K (decide (g_1<z11)) (True/\A (z7<=g_1/\g_1<z11)/\True/\True/\True/\True/\True/\True/\(((A z1/\A (z4.y=z4.y))/\True)/\A True)/\True/\True/\K (!(decide ((-8192:Int)<=z4.y)&&decide (z4.y<(8192:Int)))) (True/\True/\True/\True/\True/\A z1/\A ((3:Int)=z7)) (True/\True/\(((A z1/\A (z4.x0=z4.x0))/\True)/\A True)/\True/\True/\True/\K (!(decide ((-8192:Int)<=z4.x0)&&decide (z4.x0<=(8192:Int)))) (True/\True/\True/\A z1/\A ((3:Int)=z7)) (True/\True/\(((A z1/\A (z4.x1=z4.x1))/\True)/\A True)/\True/\True/\K (!(decide ((-8192:Int)<=z4.x1)&&decide (z4.x1<=(8192:Int)))) (True/\True/\A z1/\A ((3:Int)=z7)) (True/\True/\True/\True/\True/\K (decide (z4.x1<=z4.x0)) (True/\True/\A z1/\A ((4:Int)=z7)) (True/\True/\True/\K (decide (z7<g_1)) (True/\True/\True/\True/\A z2/\A z6/\True/\True/\True/\True/\True/\K (decide (z4.y<=z10.y)) (True/\True/\True/\True/\A z2/\A z6/\True/\True/\True/\True/\K (decide (z4.y<z10.y)) (True/\True/\True/\True/\A z1/\A ((18:Int)=z7)) (True/\True/\True/\True/\A z2/\A z6/\True/\True/\True/\True/\True/\K (decide (z4.x0<=z10.x1)) (True/\True/\A z1/\A ((18:Int)=z7)) (A z3/\True/\∃ (g':Int),A (z9.pre g')/\((z0/\z0/\z5/\(A z1/\A (g_1+z8=g'))/\True)/\True)/\A (z9.meas g'<z9.meas g_1)))) (True/\A z3/\True/\∃ (g':Int),A (z9.pre g')/\((z0/\z0/\z5/\(A z1/\A (g_1+z8=g'))/\True)/\True)/\A (z9.meas g'<z9.meas g_1))) (True/\True/\True/\A z3/\True/\∃ (g':Int),A (z9.pre g')/\((z0/\z0/\z5/\(A z1/\A (g_1+z8=g'))/\True)/\True)/\A (z9.meas g'<z9.meas g_1))))))) (True/\True/\A z1/\A (z7=z7))) (by kernel_rfl) ?_
 simp only [ask_iff,br_iff,eq_self,true_and,and_true,implies_true,forall_const,decide_eq_true_eq,decide_eq_false_iff_not,ne_eq,Nat.mul_one,Nat.add_zero,Nat.zero_add]
 obtain ⟨⟨h1,h2⟩,h3⟩:=hg
 have ok:∀ i,i<g.n->okR (g.f i):=fun i hi=>h1 _ (List.mem_map.2 ⟨i,List.mem_range.2 hi,rfl⟩)
 have lt:∀ i,i+1<g.n->ltR (g.f i) (g.f (i+1)):=fun i hi=>by
  have:=List.pairwise_iff_getElem.1 h2 i (i+1) (by rw [Rg.len]; omega) (by rw [Rg.len]; exact hi) (by omega)
  simpa [Rg.L] using this
 refine ⟨⟨0,⟨Int.le_refl _,Int.natCast_nonneg _⟩,rfl⟩,fun i hi hlt=>?_⟩
 have hi:0<=i/\i<=g.n:=hi
 obtain ⟨k,rfl⟩:∃ k:Nat,i=k:=⟨i.toNat,by omega⟩
 have e1:((k:Int)).toNat=k:=rfl
 have e2:((k:Int)-1).toNat=k-1:=by omega
 have hk:=ok k (by omega)
 obtain ⟨⟨⟨a1,a2⟩,⟨b1,b2⟩,c1,c2⟩,d1⟩:=hk
 rw [e1,e2,decide_eq_true a1,decide_eq_true a2,decide_eq_true b1,decide_eq_true b2,decide_eq_true c1,decide_eq_true c2]
 have fin:(-9223372036854775808<=(k:Int)+1/\(k:Int)+1<=9223372036854775807)/\∃ g':Int,(ckInv g).pre g'/\(k:Int)+1=g'/\(ckInv g).meas g'<(ckInv g).meas (k:Int):=by
  refine ⟨by omega,(k:Int)+1,⟨by omega,by omega⟩,rfl,?_⟩
  show ((g.n:Int)-(k+1)).toNat<((g.n:Int)-k).toNat
  omega
 refine ⟨by omega,fun h=>absurd h (by decide),fun _=>⟨fun h=>absurd h (by decide),fun _=>⟨fun h=>absurd h (by decide),fun _=>⟨fun h=>absurd h (by omega),fun _=>⟨fun h0=>?_,fun _=>fin⟩⟩⟩⟩⟩
 have hl:=lt (k-1) (by omega)
 rw [show k-1+1=k by omega] at hl
 have q1 : -9223372036854775808<=(k:Int)-1/\(k:Int)-1<=9223372036854775807:=by clear fin; omega
 have q2:0<=(k:Int)-1/\(k:Int)-1<(g.n:Int):=by clear fin; omega
 have hl:(g.f (k-1)).y<(g.f k).y\/((g.f (k-1)).y=(g.f k).y/\(g.f (k-1)).x1<(g.f k).x0):=hl
 exact ⟨q1,q2,fun hy=>⟨q1,q2,fun hy2=>absurd hl (by clear fin; omega),fun hy2=>⟨q1,q2,fun hx=>absurd hl (by clear fin; omega),fun _=>fin⟩⟩,fun _=>fin⟩
def addR (L:List Rn) (r:Rn):List Rn:=if r.x0<r.x1 then (match L.getLast? with
 | some s=>if s.y=r.y/\r.x0<=s.x1 then L.dropLast++[⟨s.y,s.x0,if r.x1>s.x1 then r.x1 else s.x1⟩] else L++[r]
 | none=>[r]) else L
theorem rI_app (L:List Rn) (r:Rn) (i:Nat) (h:i<L.length+1):rI (L++[r]) i=if i<L.length then rI L i else r:=by
 unfold rI
 by_cases hi:i<L.length
 ·rw [if_pos hi,List.getD_eq_getElem?_getD,List.getElem?_append_left hi,List.getD_eq_getElem?_getD]
 ·rw [if_neg hi,show i=L.length by omega]
  simp
theorem rI_last (L:List Rn) (s:Rn) (i:Nat) (h:i<L.length) (h0:0<L.length):rI (L.dropLast++[s]) i=if i=L.length-1 then s else rI L i:=by
 unfold rI
 by_cases hi:i=L.length-1
 ·rw [if_pos hi,hi]
  simp
 ·rw [if_neg hi,List.getD_eq_getElem?_getD,List.getElem?_append_left (by rw [List.length_dropLast]; omega),List.getD_eq_getElem?_getD,List.getElem?_dropLast,if_pos (by omega)]
structure AdG where
 n:Nat
 f:Nat->Rn
 r:Rn
def AdG.L (g:AdG):List Rn:=addR (Rg.L ⟨g.n,g.f⟩) g.r
def adD:List SV->List SO->Option AdG
 | [_,.int _ y,.int _ x0,.int _ x1],[_,.row _ n _ g _]=>some ⟨n,fun i=>rnD (g i),⟨y,x0,x1⟩⟩
 | _,_=>none
def spAddR:FSpec:=mkSpecM 38 [.arg 0,.cell 0 0] adD (fun g=>[.own 0 0,.int .i64 g.r.y,.int .i64 g.r.x0,.int .i64 g.r.x1])
 (fun g=>[.cells 1 (lst [.osl 1 0]) 82,.row 0 g.n 3 (fun i=>lst (rnL (g.f i))) 77]) (fun g=>g.n<=4294967296)
 (fun _=> .tup 0 (lst []))
 (fun g=>[.cells 1 (lst [.osl 1 1]) 82,.row 1 g.L.length 3 (fun i=>lst (rnL (rI g.L i))) 77])
theorem ok_addR:SpecOK Tryz.prog spAddR:=by
 refine spec_soundM (specs:=[]) (all_ok trivial) (eqs:=[]) (fun _ _ h=>(List.not_mem_nil h).elim) Aff.mixed Tryz.func38 rfl (by kernel_rfl) (fun _ _=>by kernel_rfl) (fun g=>A0) false (fun g=>Nat.le_of_ble_eq_true (by kernel_rfl)) ?_
 rintro g hg
 refine vc_of (B:=let K:=Sx.Br;let A:=Sx.Ask;let z11:=(2:Nat);let z10:=(0:Nat);let z9:=(1:Nat);let z7:=(↑g.n:Int);let z5:=(True/\True);let z4:=(IntKind.i64=IntKind.i64);let z3:=(g.n+z9<=(9223372036854775807:Nat)/\(g.n+z9)*(24:Nat)<=(140737488355328:Nat));let z2:=((0:Int)<=z7-(1:Int)/\z7-(1:Int)<z7);let z1:=(z7-(1:Int));let z8:=(z1.toNat<g.n);let z6:=(g.f z1.toNat);let z0:=(A (g.n+z9=g.L.length)/\∀ i:Nat,i<g.L.length->((True/\A z4/\A ((bif decide (i<g.n) then (g.f i).y else g.r.y)=(rI g.L i).y))/\A z4/\A ((bif decide (i<g.n) then (g.f i).x0 else g.r.x0)=(rI g.L i).x0))/\A z4/\A ((bif decide (i<g.n) then (g.f i).x1 else g.r.x1)=(rI g.L i).x1));True/\True/\True/\K (decide (g.r.x1<=g.r.x0)) (True/\True/\z5/\z5/\(A (g.n=g.L.length)/\∀ i:Nat,i<g.L.length->((True/\A z4/\A ((g.f i).y=(rI g.L i).y))/\A z4/\A ((g.f i).x0=(rI g.L i).x0))/\A z4/\A ((g.f i).x1=(rI g.L i).x1))/\True) (True/\True/\True/\True/\True/\A ((-9223372036854775808:Int)<=z7-(1:Int)/\z7-(1:Int)<=(9223372036854775807:Int))/\True/\True/\True/\True/\K (decide ((0:Int)<=z7-(1:Int))) (True/\True/\True/\True/\True/\A z2/\True/\A z8/\True/\True/\True/\True/\K (decide (z6.y=g.r.y)) (True/\True/\True/\True/\True/\True/\A z2/\True/\A z8/\True/\True/\K (decide (g.r.x0<=z6.x1)) (True/\True/\True/\True/\True/\True/\True/\True/\True/\True/\A z2/\True/\A z8/\True/\True/\A z2/\True/\A z8/\True/\True/\z5/\z5/\(A (g.n=g.L.length)/\∀ i:Nat,i<g.L.length->((True/\A z4/\A ((bif decide (i=z1.toNat/\z10+z11<=z10/\z10<z10+z11+z9) then if g.r.x1>z6.x1 then g.r.x1 else z6.x1 else (g.f i).y)=(rI g.L i).y))/\A z4/\A ((bif decide (i=z1.toNat/\z10+z11<=z9/\z9<z10+z11+z9) then if g.r.x1>z6.x1 then g.r.x1 else z6.x1 else (g.f i).x0)=(rI g.L i).x0))/\A z4/\A ((bif decide (i=z1.toNat/\z10+z11<=z11/\z11<z10+z11+z9) then if g.r.x1>z6.x1 then g.r.x1 else z6.x1 else (g.f i).x1)=(rI g.L i).x1))/\True) (True/\True/\True/\True/\True/\True/\True/\True/\True/\True/\A z3/\True/\True/\True/\True/\True/\z5/\z5/\z0/\True)) (True/\True/\True/\True/\True/\True/\True/\True/\True/\True/\True/\A z3/\True/\True/\True/\True/\True/\z5/\z5/\z0/\True)) (True/\True/\True/\True/\True/\True/\True/\True/\True/\True/\True/\True/\True/\A z3/\True/\True/\True/\True/\True/\z5/\z5/\z0/\True))) (by kernel_rfl) ?_
 simp only [ask_iff,br_iff,eq_self,true_and,and_true,implies_true,forall_const,decide_eq_true_eq,decide_eq_false_iff_not,ne_eq,Nat.mul_one,Nat.add_zero,Nat.zero_add]
 have hlen:(Rg.L ⟨g.n,g.f⟩).length=g.n:=Rg.len _
 have hget:∀ i,i<g.n->rI (Rg.L ⟨g.n,g.f⟩) i=g.f i:=fun i hi=>Rg.rI (g:=⟨g.n,g.f⟩) hi
 have hL:g.L=addR (Rg.L ⟨g.n,g.f⟩) g.r:=rfl
 generalize Rg.L ⟨g.n,g.f⟩=L at hlen hget hL
 rw [hL]
 have app:∀ (i:Nat),i<(L++[g.r]).length->((bif decide (i<g.n) then (g.f i).y else g.r.y)=(rI (L++[g.r]) i).y/\(bif decide (i<g.n) then (g.f i).x0 else g.r.x0)=(rI (L++[g.r]) i).x0)/\(bif decide (i<g.n) then (g.f i).x1 else g.r.x1)=(rI (L++[g.r]) i).x1:=fun i hi=>by
  rw [rI_app L g.r i (by simpa using hi),hlen]
  by_cases h:i<g.n
  ·rw [decide_eq_true h,if_pos h,hget i h]; exact ⟨⟨rfl,rfl⟩,rfl⟩
  ·rw [decide_eq_false h,if_neg h]; exact ⟨⟨rfl,rfl⟩,rfl⟩
 have bnd:g.n+1<=9223372036854775807/\(g.n+1)*24<=140737488355328:=by omega
 have e1:((g.n:Int)-1).toNat=g.n-1:=by omega
 rw [e1]
 refine ⟨fun h=>?_,fun h=>⟨by omega,fun h0=>?_,fun h0=>?_⟩⟩
 ·have e:addR L g.r=L:=if_neg (by omega)
  rw [e]
  exact ⟨hlen.symm,fun i hi=>by rw [hget i (by omega)]; exact ⟨⟨rfl,rfl⟩,rfl⟩⟩
 ·have hn:0<g.n:=by omega
  have hlast:L.getLast?=some (g.f (g.n-1)):=by
   rw [<-hget (g.n-1) (by omega),List.getLast?_eq_getElem?,hlen]
   unfold rI
   rw [List.getD_eq_getElem?_getD,List.getElem?_eq_getElem (show g.n-1<L.length by omega)]
   rfl
  have ea:addR L g.r=if (g.f (g.n-1)).y=g.r.y/\g.r.x0<=(g.f (g.n-1)).x1 then L.dropLast++[⟨(g.f (g.n-1)).y,(g.f (g.n-1)).x0,if g.r.x1>(g.f (g.n-1)).x1 then g.r.x1 else (g.f (g.n-1)).x1⟩] else L++[g.r]:=by
   unfold addR
   rw [if_pos (by omega),hlast]
  have q1:0<=(g.n:Int)-1/\(g.n:Int)-1<g.n:=by omega
  have q2:g.n-1<g.n:=by omega
  refine ⟨q1,q2,fun hy=>⟨q1,q2,fun hx=>⟨q1,q2,q1,q2,?_⟩,fun hx=>⟨bnd,?_⟩⟩,fun hy=>⟨bnd,?_⟩⟩
  ·rw [ea,if_pos ⟨hy,hx⟩]
   refine ⟨by rw [List.length_append,List.length_dropLast,List.length_singleton]; omega,fun i hi=>?_⟩
   rw [rI_last L _ i (by rw [List.length_append,List.length_dropLast,List.length_singleton] at hi; omega) (by omega),hlen]
   by_cases h:i=g.n-1
   ·rw [decide_eq_false (by omega),decide_eq_false (by omega),decide_eq_true ⟨h,by omega⟩,if_pos h,h]
    exact ⟨⟨rfl,rfl⟩,rfl⟩
   ·rw [decide_eq_false (by omega),decide_eq_false (by omega),decide_eq_false (by omega),if_neg h,hget i (by rw [List.length_append,List.length_dropLast,List.length_singleton] at hi; omega)]
    exact ⟨⟨rfl,rfl⟩,rfl⟩
  ·rw [ea,if_neg (fun h=>hx h.2)]
   exact ⟨by simp [hlen],app⟩
  ·rw [ea,if_neg (fun h=>hy h.1)]
   exact ⟨by simp [hlen],app⟩
 ·have hn:g.n=0:=by omega
  have eL:L=[]:=List.length_eq_zero_iff.1 (by omega)
  have ea:addR L g.r=L++[g.r]:=by
   unfold addR
   rw [if_pos (by omega),eL]
   rfl
  rw [ea]
  exact ⟨bnd,by simp [hlen],app⟩
def orI (a b:Int):Int:=if a=0 then b else a
def spOr:FSpec:=mkSpec 37 (γ:=Nat->Int) (fun | [.sl _ _ f]=>some (fun i=>Sx.intOf (f i 0)) | _=>none) (fun f=>[.sl 2 1 (fun i=>lst [.int .i64 (f i)])]) (fun _=>True) (fun f=> .int .i64 (orI (f 0) (f 1)))
theorem ok_or:SpecOK Tryz.prog spOr:=by
 refine spec_sound (specs:=[]) (all_ok trivial) (eqs:=[]) (fun _ _ h=>(List.not_mem_nil h).elim) Aff.mixed Tryz.func37 rfl (by kernel_rfl) (fun _ _=>by kernel_rfl) (fun g=>(⟨[(3,.rounds 3)],[]⟩:Ann)) (fun g=>Nat.le_of_ble_eq_true (by kernel_rfl)) ?_
 rintro g hg
 refine vc_of (B:=let A:=Sx.Ask;let z2:=(1:Int);let z1:=(IntKind.i64=IntKind.i64);let z0:=(0:Int);True/\True/\True/\True/\True/\True/\A (z0<=z0/\z0<(↑(2:Nat):Int))/\True/\True/\True/\True/\True/\Sx.Br (decide (g (Int.toNat z0)≠z0)) (True/\True/\True/\A z1/\A (g (Int.toNat z0)=orI (g (0:Nat)) (g (1:Nat)))) (A ((-9223372036854775808:Int)<=z0+z2/\z0+z2<=(9223372036854775807:Int))/\True/\True/\A (z0<=z0+z2/\z0+z2<(↑(2:Nat):Int))/\True/\True/\True/\True/\True/\Sx.Br (decide (g (z0+z2).toNat≠z0)) (True/\True/\True/\A z1/\A (g (z0+z2).toNat=orI (g (0:Nat)) (g (1:Nat)))) (A ((-9223372036854775808:Int)<=z0+z2+z2/\z0+z2+z2<=(9223372036854775807:Int))/\True/\True/\True/\True/\True/\A z1/\A (z0=orI (g (0:Nat)) (g (1:Nat)))))) (by kernel_rfl) ?_
 simp only [ask_iff,br_iff,eq_self,true_and,and_true,implies_true,forall_const,decide_eq_true_eq,decide_eq_false_iff_not,ne_eq,Nat.mul_one,Nat.add_zero,Nat.zero_add]
 refine ⟨by decide,fun h=>?_,fun h=>⟨by decide,by decide,fun h2=>?_,fun h2=>⟨by decide,?_⟩⟩⟩
 ·unfold orI; exact (if_neg h).symm
 ·have h':g 0=0:=Classical.not_not.1 h
  unfold orI; exact (if_pos h').symm
 ·have h':g 0=0:=Classical.not_not.1 h
  have h3:g 1=0:=Classical.not_not.1 h2
  unfold orI; rw [if_pos h',h3]
structure Eg where
 y:Int
 x:Int
 who:Int
def egL (e:Eg):List SV:=[.int .i64 e.y,.int .i64 e.x,.int .i64 e.who]
structure EsG where
 g:Rg
 w:Int
def eX (f:Nat->Rn) (k:Nat):Int:=if k % 2=0 then (f (k / 2)).x0 else (f (k / 2)).x1
def eAt (f:Nat->Rn) (w:Int) (k:Nat):Eg:=⟨(f (k / 2)).y,eX f k,w⟩
def esInv (g:EsG):Inv:=⟨Int,fun i=>0<=i/\i<=g.g.n,fun i=>⟨[(1,.int .i64 g.w),(5,.osl 0 0),(12,rgS g.g),(13,.int .i64 g.g.n),(14,.int .i64 i)],[.row 0 (2*i.toNat) 3 (fun k=>lst [.int .i64 (g.g.f (k / 2)).y,.int .i64 (eX g.g.f k),.int .i64 g.w]) 122]⟩,fun i=>(g.g.n-i).toNat⟩
def spEdges:FSpec:=mkSpec 63 (γ:=EsG) (fun | [s,.int _ w]=>some ⟨⟨slLen s,rgD s⟩,w⟩ | _=>none) (fun g=>[rgS g.g,.int .i64 g.w]) (fun g=>g.g.n<=4294967296) (fun g=> .sl (2*g.g.n) 3 (fun k=>lst [.int .i64 (g.g.f (k / 2)).y,.int .i64 (eX g.g.f k),.int .i64 g.w]))
theorem ok_edges:SpecOK Tryz.prog spEdges:=by
 refine spec_sound (specs:=[]) (all_ok trivial) (eqs:=[]) (fun _ _ h=>(List.not_mem_nil h).elim) Aff.mixed Tryz.func63 rfl (by kernel_rfl) (fun _ _=>by kernel_rfl) (fun g=>(⟨[(3,.inv (esInv g))],[]⟩:Ann)) (fun g=>Nat.le_of_ble_eq_true (by kernel_rfl)) ?_
 rintro g hg
 refine vc_of (B:=let A:=Sx.Ask;let z6:=(0:Int);let z5:=(9223372036854775807:Int);let z3:=(↑g.g.n:Int);let z2:=(2:Nat);let z0:=(IntKind.i64=IntKind.i64);let z1:=(A (g.g.n=g.g.n)/\∀ i:Nat,i<g.g.n->((True/\A z0/\A ((g.g.f i).y=(g.g.f i).y))/\A z0/\A ((g.g.f i).x0=(g.g.f i).x0))/\A z0/\A ((g.g.f i).x1=(g.g.f i).x1));True/\True/\True/\A ((-9223372036854775808:Int)<=(2:Int)*z3/\(2:Int)*z3<=z5)/\A (z6<=z6/\z6<=(2:Int)*z3/\(↑(24:Nat):Int)*((2:Int)*z3)<=(140737488355328:Int)/\(2:Int)*z3<=z5)/\True/\True/\True/\True/\(∃ g_1:Int,A ((esInv g).pre g_1)/\((A z0/\A (g.w=g.w))/\True/\z1/\(A z0/\A (z3=z3))/\(A z0/\A (z6=g_1))/\True)/\(A (Int.toNat z6=z2*g_1.toNat)/\∀ i:Nat,i<z2*g_1.toNat->((True/\A z0/\A (z6=(g.g.f (i / z2)).y))/\A z0/\A (z6=eX g.g.f i))/\A z0/\A (z6=g.w))/\True)/\∀ g_1:Int,let z7:=(g.g.f g_1.toNat); (esInv g).pre g_1->True/\Sx.Br (decide (g_1<z3)) (A (z6<=g_1/\g_1<z3)/\True/\True/\True/\True/\True/\True/\True/\True/\True/\True/\True/\True/\True/\True/\True/\True/\True/\A (z2*g_1.toNat+z2<=(9223372036854775807:Nat)/\(z2*g_1.toNat+z2)*(24:Nat)<=(140737488355328:Nat))/\True/\A ((-9223372036854775808:Int)<=g_1+(1:Int)/\g_1+(1:Int)<=z5)/\True/\∃ (g':Int),A ((esInv g).pre g')/\(((A z0/\A (g.w=g.w))/\True/\z1/\(A z0/\A (z3=z3))/\(A z0/\A (g_1+(1:Int)=g'))/\True)/\(A (z2*g_1.toNat+z2=z2*g'.toNat)/\∀ i:Nat,let z8:=(i<z2*g_1.toNat);let z4:=(i-z2*g_1.toNat=(1:Nat)); i<z2*g'.toNat->((True/\A z0/\A ((bif decide z8 then (g.g.f (i / z2)).y else bif decide z4 then z7.y else z7.y)=(g.g.f (i / z2)).y))/\A z0/\A ((bif decide z8 then eX g.g.f i else bif decide z4 then z7.x1 else z7.x0)=eX g.g.f i))/\A z0/\A ((bif decide z8 then g.w else bif decide z4 then g.w else g.w)=g.w))/\True)/\A ((esInv g).meas g'<(esInv g).meas g_1)) (True/\True/\True/\A (z2*g_1.toNat=z2*g.g.n)/\∀ i:Nat,i<z2*g.g.n->((True/\A z0/\A ((g.g.f (i / z2)).y=(g.g.f (i / z2)).y))/\A z0/\A (eX g.g.f i=eX g.g.f i))/\A z0/\A (g.w=g.w))) (by kernel_rfl) ?_
 simp only [ask_iff,br_iff,eq_self,true_and,and_true,implies_true,forall_const,decide_eq_true_eq,decide_eq_false_iff_not,ne_eq,Nat.mul_one,Nat.add_zero,Nat.zero_add]
 have z0:Int.toNat 0=0:=rfl
 refine ⟨by omega,by omega,⟨0,⟨Int.le_refl _,Int.natCast_nonneg _⟩,rfl,rfl,fun i hi=>absurd hi (by omega)⟩,fun i hi=>?_⟩
 have hi:0<=i/\i<=g.g.n:=hi
 refine ⟨fun hlt=>⟨⟨hi.1,hlt⟩,by omega,by omega,i+1,⟨by omega,by omega⟩,⟨rfl,by omega,fun k hk=>?_⟩,?_⟩,fun hge=>by omega⟩
 ·have hk:k<2*(i+1).toNat:=hk
  by_cases h:k<2*i.toNat
  ·rw [decide_eq_true h]; exact ⟨⟨rfl,rfl⟩,rfl⟩
  ·rw [decide_eq_false h]
   have e:k / 2=i.toNat:=by omega
   by_cases h1:k-2*i.toNat=1
   ·rw [decide_eq_true h1]
    refine ⟨⟨by rw [e]; rfl,?_⟩,rfl⟩
    unfold eX
    rw [if_neg (by omega),e]
    rfl
   ·rw [decide_eq_false h1]
    refine ⟨⟨by rw [e]; rfl,?_⟩,rfl⟩
    unfold eX
    rw [if_pos (by omega),e]
    rfl
 ·show ((g.g.n:Int)-(i+1)).toNat<((g.g.n:Int)-i).toNat
  omega
end Go.Proofs.YtmhofgchidojoaaGreat.Rga
set_option linter.unusedSimpArgs false
set_option linter.unusedVariables false
namespace Go.Proofs.YtmhofgchidojoaaGreat.Fla
open Go.RowKit Sx Num Aff Con
set_option maxRecDepth 100000
def small (M:Int) (p:Pt):Prop:=(-M<=p.x/\p.x<=M)/\ -M<=p.y/\p.y<=M
structure Li where
 n:Nat
 f:Nat->Pt
 c:Bool
def liL (l:Li):List SV:=[.sl l.n 2 (fun i=>lst (ptL (l.f i))),.bool l.c]
def pxD:SV->Nat->Pt
 | .sl _ _ f=>fun i=>ptD (f i)
 | _=>fun _=>⟨0,0⟩
def liD (g:Nat->SV):Li:=⟨slLen (g 0),pxD (g 0),boolOf (g 1)⟩
def spWithFi:FSpec:=mkSpec 22 (γ:=Int) (fun | [.int _ x]=>some x | _=>none) (fun x=>[.int .i64 x]) (fun x=> -32767<=x/\x<=32767) (fun _=> .lit true)
theorem ok_withFi:SpecOK Tryz.prog spWithFi:=by
 refine spec_sound (specs:=[]) (all_ok trivial) (eqs:=[]) (fun _ _ h=>(List.not_mem_nil h).elim) Aff.mixed Tryz.func22 rfl (by kernel_rfl) (fun _ _=>by kernel_rfl) (fun g=>A0) (fun g=>Nat.le_of_ble_eq_true (by kernel_rfl)) ?_
 rintro x hx
 refine vc_of (B:=True/\True/\True/\True/\Sx.Br (decide ((-32767:Int)<=x)) (True/\True/\True/\True/\True/\Sx.Ask (decide (x<=(32767:Int))=true)) (True/\True/\True/\Sx.Ask (false=true))) (by kernel_rfl) ?_
 simp only [ask_iff,br_iff,eq_self,true_and,and_true,implies_true,forall_const,decide_eq_true_eq,decide_eq_false_iff_not,ne_eq,Nat.mul_one,Nat.add_zero,Nat.zero_add]
 exact ⟨fun _=>hx.2,fun h=>absurd hx.1 h⟩
structure Lns where
 n:Nat
 f:Nat->Li
def lnsS (g:Lns):SV:= .sl g.n 2 (fun i=>lst (liL (g.f i)))
def lnsD:SV->Nat->Li
 | .sl _ _ f=>fun i=>liD (f i)
 | _=>fun _=>⟨0,fun _=>⟨0,0⟩,false⟩
def Li.fin (l:Li):Prop:=l.n<=1024/\∀ i,i<l.n->small 32767 (l.f i)
def Lns.fin (g:Lns):Prop:=g.n<=1024/\∀ i,i<g.n->Li.fin (g.f i)
def ckOut (g:Lns):Inv:=⟨Int,fun i=>0<=i/\i<=g.n,fun i=>⟨[(7,lnsS g),(8,.int .i64 g.n),(9,.int .i64 i)],[]⟩,fun i=>(g.n-i).toNat⟩
def ckIn (g:Lns) (i:Int):Inv:=⟨Int,fun j=>0<=j/\j<=(g.f i.toNat).n,fun j=>⟨[(7,lnsS g),(8,.int .i64 g.n),(9,.int .i64 i),(14,.sl (g.f i.toNat).n 2 (fun j=>lst (ptL ((g.f i.toNat).f j)))),(15,.int .i64 (g.f i.toNat).n),(16,.int .i64 j)],[]⟩,fun j=>((g.f i.toNat).n-j).toNat⟩
def spChkFi:FSpec:=mkSpec 10 (γ:=Lns) (fun | [s]=>some ⟨slLen s,lnsD s⟩ | _=>none) (fun g=>[lnsS g]) Lns.fin (fun _=> .int .i64 0)
theorem ok_chkFi:SpecOK Tryz.prog spChkFi:=by
 refine spec_sound (specs:=[spWithFi]) (all_ok (⟨ok_withFi,trivial⟩)) (eqs:=[]) (fun _ _ h=>(List.not_mem_nil h).elim) Aff.mixed Tryz.func10 rfl (by kernel_rfl) (fun _ _=>by kernel_rfl) (fun g=>(⟨[(2,.nest (ckOut g) (fun i=>[(5,.inv (ckIn g i))]))],[]⟩:Ann)) (fun g=>Nat.le_of_ble_eq_true (by kernel_rfl)) ?_
 rintro l hl
 refine vc_of (B:=let A:=Sx.Ask;let z1:=(IntKind.i64=IntKind.i64);let z4:=(A z1/\A ((↑l.n:Int)=(↑l.n:Int)));let z0:=(A (l.n=l.n)/\∀ i:Nat,i<l.n->(True/\A ((l.f i).n=(l.f i).n)/\∀ i_1:Nat,let z7:=((l.f i).f i_1); i_1<(l.f i).n->(True/\A z1/\A (z7.x=z7.x))/\A z1/\A (z7.y=z7.y))/\A ((l.f i).c=(l.f i).c));True/\True/\True/\True/\(∃ g:Int,A ((ckOut l).pre g)/\(z0/\z4/\(A z1/\A ((0:Int)=g))/\True)/\True)/\∀ g:Int,let z2:=(l.f g.toNat);let z6:=(A z1/\A ((↑z2.n:Int)=(↑z2.n:Int)));let z3:=(A (z2.n=z2.n)/\∀ i:Nat,i<z2.n->(True/\A z1/\A ((z2.f i).x=(z2.f i).x))/\A z1/\A ((z2.f i).y=(z2.f i).y)); (ckOut l).pre g->True/\Sx.Br (decide (g<(↑l.n:Int))) (A ((0:Int)<=g/\g<(↑l.n:Int))/\True/\True/\True/\True/\True/\True/\True/\(∃ g_1:Int,A ((ckIn l g).pre g_1)/\(z0/\z4/\(A z1/\A (g=g))/\z3/\z6/\(A z1/\A ((0:Int)=g_1))/\True)/\True)/\∀ g_1:Int,let z5:=(z2.f g_1.toNat); (ckIn l g).pre g_1->True/\Sx.Br (decide (g_1<(↑z2.n:Int))) (A ((0:Int)<=g_1/\g_1<(↑z2.n:Int))/\True/\True/\True/\True/\True/\(((A z1/\A (z5.x=z5.x))/\True)/\A ((-32767:Int)<=z5.x/\z5.x<=(32767:Int)))/\True/\True/\True/\True/\(((A z1/\A (z5.y=z5.y))/\True)/\A ((-32767:Int)<=z5.y/\z5.y<=(32767:Int)))/\True/\True/\A ((-9223372036854775808:Int)<=g_1+(1:Int)/\g_1+(1:Int)<=(9223372036854775807:Int))/\True/\∃ (g':Int),A ((ckIn l g).pre g')/\((z0/\z4/\(A z1/\A (g=g))/\z3/\z6/\(A z1/\A (g_1+(1:Int)=g'))/\True)/\True)/\A ((ckIn l g).meas g'<(ckIn l g).meas g_1)) (A ((-9223372036854775808:Int)<=g+(1:Int)/\g+(1:Int)<=(9223372036854775807:Int))/\True/\∃ (g':Int),A ((ckOut l).pre g')/\((z0/\z4/\(A z1/\A (g+(1:Int)=g'))/\True)/\True)/\A ((ckOut l).meas g'<(ckOut l).meas g))) (True/\True/\A z1/\A ((0:Int)=(0:Int)))) (by kernel_rfl) ?_
 simp only [ask_iff,br_iff,eq_self,true_and,and_true,implies_true,forall_const,decide_eq_true_eq,decide_eq_false_iff_not,ne_eq,Nat.mul_one,Nat.add_zero,Nat.zero_add]
 have hl1:(l.n:Int)<=9223372036854775807:=by have:=hl.1; omega
 refine ⟨⟨0,⟨Int.le_refl _,Int.natCast_nonneg _⟩,rfl⟩,fun i hi h=>?_⟩
 have hi:0<=i/\i<=l.n:=hi
 have hp:=hl.2 i.toNat (by omega)
 have hn:((l.f i.toNat).n:Int)<=9223372036854775807:=by have:=hp.1; omega
 refine ⟨⟨hi.1,h⟩,⟨0,⟨Int.le_refl _,Int.natCast_nonneg _⟩,rfl⟩,fun j hj=>?_⟩
 have hj:0<=j/\j<=(l.f i.toNat).n:=hj
 refine ⟨fun hlt=>?_,fun hge=>⟨by omega,i+1,⟨by omega,by omega⟩,rfl,?_⟩⟩
 ·have hq:=hp.2 j.toNat (by omega)
  refine ⟨⟨hj.1,hlt⟩,hq.1,hq.2,by omega,j+1,⟨by omega,by omega⟩,rfl,?_⟩
  show (((l.f i.toNat).n:Int)-(j+1)).toNat<(((l.f i.toNat).n:Int)-j).toNat
  omega
 ·show ((l.n:Int)-(i+1)).toNat<((l.n:Int)-i).toNat
  omega
structure Ed where
 x:Int
 y:Int
 en:Int
 dx:Int
 dy:Int
 s:Int
def edL (e:Ed):List SV:=[.int .i64 e.x,.int .i64 e.y,.int .i64 e.en,.int .i64 e.dx,.int .i64 e.dy,.int .i64 e.s]
def edS (e:Ed):SV:= .agg 6 (lst (edL e))
def edD (g:Nat->SV):Ed:=⟨Sx.intOf (g 0),Sx.intOf (g 1),Sx.intOf (g 2),Sx.intOf (g 3),Sx.intOf (g 4),Sx.intOf (g 5)⟩
def eI (L:List Ed) (i:Nat):Ed:=L.getD i ⟨0,0,0,0,0,0⟩
def Ed.ok (e:Ed):Prop:=((-32767<=e.x/\e.x<=32767)/\(-32767<=e.y/\e.y<=32767)/\e.en<=32767)/\(-65534<=e.dx/\e.dx<=65534)/\(1<=e.dy/\e.en=e.y+e.dy)/\(e.s=1\/e.s = -1)
def edRow (ver n:Nat) (f:Nat->Ed):SO:= .row ver n 6 (fun i=>lst (edL (f i))) 108
def Ed.num (e:Ed) (y:Int):Int:=2*e.dy*e.x+e.dx*(2*(y-e.y)+1)-e.dy
def Ed.first (e:Ed) (y:Int):Int:= -(-(e.num y) / (2*e.dy))
def spFirst:FSpec:=mkSpec 75 (γ:=Ed×Int) (fun | [.agg _ g,.int _ y]=>some (edD g,y) | _=>none) (fun g=>[edS g.1,.int .i64 g.2]) (fun g=>g.1.ok/\ -32767<=g.2/\g.2<=32767) (fun g=> .int .i64 (g.1.first g.2))
theorem mul_in {a x A X:Int}(h1 : -A<=a/\a<=A) (h2 : -X<=x/\x<=X) : -(A*X)<=a*x/\a*x<=A*X:=by
 have p1:=Int.mul_nonneg (show 0<=A-a by omega) (show 0<=X+x by omega)
 have p2:=Int.mul_nonneg (show 0<=A+a by omega) (show 0<=X-x by omega)
 have p3:=Int.mul_nonneg (show 0<=A-a by omega) (show 0<=X-x by omega)
 have p4:=Int.mul_nonneg (show 0<=A+a by omega) (show 0<=X+x by omega)
 simp only [Int.sub_mul,Int.mul_sub,Int.add_mul,Int.mul_add] at p1 p2 p3 p4
 omega
theorem Ed.num_in {e:Ed}{y:Int}(h:e.ok) (hy : -32767<=y/\y<=32767):(-(131068*32767)<=2*e.dy*e.x/\2*e.dy*e.x<=131068*32767)/\(-(65534*131071)<=e.dx*(2*(y-e.y)+1)/\e.dx*(2*(y-e.y)+1)<=65534*131071):=by
 obtain ⟨⟨h1,h2,h3⟩,h4,⟨h5,h6⟩,_⟩:=h
 exact ⟨mul_in (A:=131068) (X:=32767) ⟨by omega,by omega⟩ ⟨by omega,by omega⟩,mul_in (A:=65534) (X:=131071) h4 ⟨by omega,by omega⟩⟩
theorem ok_first:SpecOK Tryz.prog spFirst:=by
 refine spec_sound (specs:=[spQuo]) (all_ok (⟨ok_quo,trivial⟩)) (eqs:=[]) (fun _ _ h=>(List.not_mem_nil h).elim) Aff.mixed Tryz.func75 rfl (by kernel_rfl) (fun _ _=>by kernel_rfl) (fun g=>A0) (fun g=>Nat.le_of_ble_eq_true (by kernel_rfl)) ?_
 rintro ⟨e,y⟩ ⟨h,hy⟩
 refine vc_of (B:=let A:=Sx.Ask;let z6:=(IntKind.i64=IntKind.i64);let z5:=(0:Int);let z4:=(2:Int);let z3:=(z4*(y-e.y)+(1:Int));let z2:=(-9223372036854775808:Int);let z1:=(9223372036854775807:Int);let z0:=(z4*e.dy*e.x+e.dx*z3-e.dy);True/\True/\True/\True/\A (z2<=z4*e.dy/\z4*e.dy<=z1)/\True/\True/\A (z2<=z4*e.dy*e.x/\z4*e.dy*e.x<=z1)/\True/\True/\True/\True/\True/\A (z2<=y-e.y/\y-e.y<=z1)/\A (z2<=z4*(y-e.y)/\z4*(y-e.y)<=z1)/\A (z2<=z4*(y-e.y)+(1:Int)/\z4*(y-e.y)+(1:Int)<=z1)/\A (z2<=e.dx*z3/\e.dx*z3<=z1)/\A (z2<=z4*e.dy*e.x+e.dx*z3/\z4*e.dy*e.x+e.dx*z3<=z1)/\True/\True/\A (z2<=z4*e.dy*e.x+e.dx*z3-e.dy/\z4*e.dy*e.x+e.dx*z3-e.dy<=z1)/\True/\True/\A (z2<=z5-z0/\z5-z0<=z1)/\True/\True/\A (z2<=z4*e.dy/\z4*e.dy<=z1)/\(((A z6/\A (z5-z0=z5-z0))/\(A z6/\A (z4*e.dy=z4*e.dy))/\True)/\A (((-4611686018427387904:Int)<=z5-z0/\z5-z0<=(4611686018427387904:Int))/\(1:Int)<=z4*e.dy/\z4*e.dy<=z1))/\A (z2<=z5-(z5-z0) / (z4*e.dy)/\z5-(z5-z0) / (z4*e.dy)<=z1)/\True/\True/\A z6/\A (z5-(z5-z0) / (z4*e.dy)=e.first y)) (by kernel_rfl) ?_
 simp only [ask_iff,br_iff,eq_self,true_and,and_true,implies_true,forall_const,decide_eq_true_eq,decide_eq_false_iff_not,ne_eq,Nat.mul_one,Nat.add_zero,Nat.zero_add]
 have h:e.ok:=h
 have hy : -32767<=y/\y<=32767:=hy
 have hb:=Ed.num_in h hy
 obtain ⟨⟨h1,h2,h3⟩,h4,⟨h5,h6⟩,_⟩:=h
 have e1:e.first y=0-(0-e.num y) / (2*e.dy):=by unfold Ed.first; rw [Int.zero_sub,Int.zero_sub]
 have e2:e.num y=2*e.dy*e.x+e.dx*(2*(y-e.y)+1)-e.dy:=rfl
 rw [e1,e2]
 clear e1 e2
 generalize 2*e.dy*e.x=p at *
 generalize e.dx*(2*(y-e.y)+1)=q at *
 have hq:=quo_bounds (0-(p+q-e.dy)) (2*e.dy) (by omega)
 generalize (0-(p+q-e.dy)) / (2*e.dy)=r at *
 refine ⟨by omega,by omega,by omega,by omega,by omega,by omega,by omega,by omega,by omega,by omega,⟨by omega,by omega⟩,by omega⟩
def mkE (a b:Pt):List Ed:=if a.y<b.y then [⟨a.x,a.y,b.y,b.x-a.x,b.y-a.y,1⟩] else if b.y<a.y then [⟨b.x,b.y,a.y,a.x-b.x,a.y-b.y,-1⟩] else []
def Li.ed (l:Li):Nat->List Ed
 | 0=>[]
 | j+1=>Li.ed l j++mkE (l.f j) (l.f ((j+1) % l.n))
def Lns.ed (g:Lns):Nat->List Ed
 | 0=>[]
 | i+1=>Lns.ed g i++(g.f i).ed (g.f i).n
def Lns.E (g:Lns):List Ed:=g.ed g.n
theorem eI_app (L:List Ed) (r:Ed) (i:Nat) (h:i<L.length+1):eI (L++[r]) i=if i<L.length then eI L i else r:=by
 unfold eI
 by_cases hi:i<L.length
 ·rw [if_pos hi,List.getD_eq_getElem?_getD,List.getElem?_append_left hi,List.getD_eq_getElem?_getD]
 ·rw [if_neg hi,show i=L.length by omega]
  simp
theorem mkE_ok {a b:Pt}(ha:small 32767 a) (hb:small 32767 b):∀ e∈mkE a b,e.ok:=by
 intro e he
 obtain ⟨⟨a1,a2⟩,a3,a4⟩:=ha
 obtain ⟨⟨b1,b2⟩,b3,b4⟩:=hb
 unfold mkE at he
 split at he
 ·rw [List.mem_singleton.1 he]
  exact ⟨⟨⟨a1,a2⟩,⟨a3,a4⟩,b4⟩,⟨show -65534<=b.x-a.x by omega,show b.x-a.x<=65534 by omega⟩,⟨show 1<=b.y-a.y by omega,show b.y=a.y+(b.y-a.y) by omega⟩,.inl rfl⟩
 ·split at he
  ·rw [List.mem_singleton.1 he]
   exact ⟨⟨⟨b1,b2⟩,⟨b3,b4⟩,a4⟩,⟨show -65534<=a.x-b.x by omega,show a.x-b.x<=65534 by omega⟩,⟨show 1<=a.y-b.y by omega,show a.y=b.y+(a.y-b.y) by omega⟩,.inr rfl⟩
  ·exact (List.not_mem_nil he).elim
theorem mkE_len (a b:Pt):(mkE a b).length<=1:=by
 unfold mkE
 split
 ·simp
 ·split<;>simp
theorem Li.ed_len (l:Li):∀ j,(l.ed j).length<=j
 | 0=>Nat.le_refl _
 | j+1=>by
  have:=Li.ed_len l j
  have:=mkE_len (l.f j) (l.f ((j+1) % l.n))
  simp only [Li.ed,List.length_append]
  omega
theorem Lns.ed_len {g:Lns}(h:g.fin):∀ i,i<=g.n->(g.ed i).length<=1024*i
 | 0,_=>Nat.le_refl _
 | i+1,hi=>by
  have:=Lns.ed_len h i (by omega)
  have h1:=Li.ed_len (g.f i) (g.f i).n
  have h2:=(h.2 i (by omega)).1
  simp only [Lns.ed,List.length_append]
  omega
theorem Li.ed_ok {l:Li}(h:l.fin):∀ j,j<=l.n->∀ e∈l.ed j,e.ok
 | 0,_=>fun _ he=>(List.not_mem_nil he).elim
 | j+1,hj=>fun e he=>by
  rcases List.mem_append.1 he with he | he
  ·exact Li.ed_ok h j (by omega) e he
  ·exact mkE_ok (h.2 j (by omega)) (h.2 _ (Nat.mod_lt _ (by omega))) e he
theorem Lns.ed_ok {g:Lns}(h:g.fin):∀ i,i<=g.n->∀ e∈g.ed i,e.ok
 | 0,_=>fun _ he=>(List.not_mem_nil he).elim
 | i+1,hi=>fun e he=>by
  rcases List.mem_append.1 he with he | he
  ·exact Lns.ed_ok h i (by omega) e he
  ·exact Li.ed_ok (h.2 i (by omega)) _ (Nat.le_refl _) e he
def same (e f:Ed):Prop:=(((((e.x=f.x/\e.y=f.y)/\e.en=f.en)/\e.dx=f.dx)/\e.dy=f.dy)/\e.s=f.s)
theorem same_of {e f:Ed}(h:e=f):(((((e.x=f.x/\e.y=f.y)/\e.en=f.en)/\e.dx=f.dx)/\e.dy=f.dy)/\e.s=f.s):=by
 rw [h]; exact ⟨⟨⟨⟨⟨rfl,rfl⟩,rfl⟩,rfl⟩,rfl⟩,rfl⟩
theorem app_of {L M:List Ed}{r:Ed}(hM:M=L++[r]):∀ (i:Nat),i<M.length->(((((bif decide (i<L.length) then (eI L i).x else r.x)=(eI M i).x/\(bif decide (i<L.length) then (eI L i).y else r.y)=(eI M i).y)/\(bif decide (i<L.length) then (eI L i).en else r.en)=(eI M i).en)/\
  (bif decide (i<L.length) then (eI L i).dx else r.dx)=(eI M i).dx)/\(bif decide (i<L.length) then (eI L i).dy else r.dy)=(eI M i).dy)/\(bif decide (i<L.length) then (eI L i).s else r.s)=(eI M i).s:=fun i hi=>by
 subst hM
 rw [eI_app L r i (by simpa using hi)]
 by_cases h:i<L.length
 ·rw [decide_eq_true h,if_pos h]; exact ⟨⟨⟨⟨⟨rfl,rfl⟩,rfl⟩,rfl⟩,rfl⟩,rfl⟩
 ·rw [decide_eq_false h,if_neg h]; exact ⟨⟨⟨⟨⟨rfl,rfl⟩,rfl⟩,rfl⟩,rfl⟩,rfl⟩
def edOut (g:Lns):Inv:=⟨Nat,fun i=>i<=g.n,fun i=>⟨[(3,.osl 0 0),(10,lnsS g),(11,.int .i64 g.n),(12,.int .i64 i)],[edRow 0 (g.ed i).length (eI (g.ed i))]⟩,fun i=>g.n-i⟩
def edIn (g:Lns) (i:Nat):Inv:=⟨Nat,fun j=>j<=(g.f i).n,fun j=>⟨[(3,.osl 0 0),(5,.own 1 0),(10,lnsS g),(11,.int .i64 g.n),(12,.int .i64 i),(17,.sl (g.f i).n 2 (fun j=>lst (ptL ((g.f i).f j)))),(18,.int .i64 (g.f i).n),(19,.int .i64 j)],
 [edRow 0 (g.ed i++(g.f i).ed j).length (eI (g.ed i++(g.f i).ed j)),.cells 2 (lst (liL (g.f i))) 31]⟩,fun j=>(g.f i).n-j⟩
def spEdges:FSpec:=mkSpecN 33 (γ:=Lns) (fun | [s]=>some ⟨slLen s,lnsD s⟩ | _=>none) (fun g=>[lnsS g]) Lns.fin (fun _=> .osl 0 0) (fun g=>edRow 0 g.E.length (eI g.E))
theorem ok_edges:SpecOK Tryz.prog spEdges:=by
 refine spec_soundN (specs:=[]) (all_ok trivial) (eqs:=[]) (fun _ _ h=>(List.not_mem_nil h).elim) Aff.mixed Tryz.func33 rfl (by kernel_rfl) (fun _ _=>by kernel_rfl) (fun g=>(⟨[(3,.nest (edOut g) (fun i=>[(6,.inv (edIn g i))]))],[(2,[.own 3 108 6])]⟩:Ann)) (fun _=>0) (fun g=>Nat.le_of_ble_eq_true (by kernel_rfl)) ?_
 rintro g hg
 refine vc_of (B:=let K:=Sx.Br;let A:=Sx.Ask;let z28:=(1:Int);let z26:=((0:Nat)=(0:Nat));let z18:=(9223372036854775807:Int);let z16:=(-9223372036854775808:Int);let z1:=(IntKind.i64=IntKind.i64);let z10:=(A z1/\A ((↑g.n:Int)=(↑g.n:Int)));let z2:=(A (g.n=g.n)/\∀ i:Nat,i<g.n->(True/\A ((g.f i).n=(g.f i).n)/\∀ i_1:Nat,let z31:=((g.f i).f i_1); i_1<(g.f i).n->(True/\A z1/\A (z31.x=z31.x))/\A z1/\A (z31.y=z31.y))/\A ((g.f i).c=(g.f i).c));True/\True/\True/\True/\True/\(∃ g_1:Nat,A ((edOut g).pre g_1)/\(True/\z2/\z10/\(A z1/\A ((0:Int)=(↑g_1:Int)))/\True)/\(A ((0:Nat)=(g.ed g_1).length)/\∀ i:Nat,i<(g.ed g_1).length->(((((True/\False)/\False)/\False)/\False)/\False)/\False)/\True)/\∀ g_1:Nat,let z23:=(g.ed g_1);let z22:=(edIn g g_1);let z11:=(↑g_1:Int);let z24:=(g.f z11.toNat);let z21:=(A z1/\A (z11=z11));let z5:=(g.f g_1);let z17:=(↑z5.n:Int);let z27:=(A z1/\A (z17=z17));let z9:=(A (z5.n=z5.n)/\∀ i:Nat,i<z5.n->(True/\A z1/\A ((z5.f i).x=(z5.f i).x))/\A z1/\A ((z5.f i).y=(z5.f i).y));let z7:=((True/\A (z5.n=z5.n)/\∀ i:Nat,i<z5.n->(True/\A z1/\A ((z5.f i).x=(z5.f i).x))/\A z1/\A ((z5.f i).y=(z5.f i).y))/\A (z5.c=z5.c)); (edOut g).pre g_1->True/\K (decide (z11<(↑g.n:Int))) (A ((0:Int)<=z11/\z11<(↑g.n:Int))/\True/\True/\True/\True/\True/\True/\True/\(∃ g_2:Nat,let z12:=(g.ed g_1++z5.ed g_2); A (z22.pre g_2)/\(True/\A z26/\z2/\z10/\z21/\(A (z24.n=z5.n)/\∀ i:Nat,i<z5.n->(True/\A z1/\A ((z24.f i).x=(z5.f i).x))/\A z1/\A ((z24.f i).y=(z5.f i).y))/\(A z1/\A ((↑z24.n:Int)=z17))/\(A z1/\A ((0:Int)=(↑g_2:Int)))/\True)/\(A (z23.length=z12.length)/\∀ i:Nat,i<z12.length->(((((True/\A z1/\A ((eI z23 i).x=(eI z12 i).x))/\A z1/\A ((eI z23 i).y=(eI z12 i).y))/\A z1/\A ((eI z23 i).en=(eI z12 i).en))/\A z1/\A ((eI z23 i).dx=(eI z12 i).dx))/\A z1/\A ((eI z23 i).dy=(eI z12 i).dy))/\A z1/\A ((eI z23 i).s=(eI z12 i).s))/\((True/\A (z24.n=z5.n)/\∀ i:Nat,i<z5.n->(True/\A z1/\A ((z24.f i).x=(z5.f i).x))/\A z1/\A ((z24.f i).y=(z5.f i).y))/\A (z24.c=z5.c))/\True)/\∀ g_2:Nat,let z20:=(↑g_2:Int);let z8:=(z16<=z20+z28/\z20+z28<=z18);let z6:=(z5.f z20.toNat);let z4:=(g.ed g_1++z5.ed g_2);let z19:=(z4.length+(1:Nat)<=(9223372036854775807:Nat)/\(z4.length+(1:Nat))*(48:Nat)<=(140737488355328:Nat));let z3:=(z5.f ((z20+z28).tmod z17).toNat);let z0:=(A z8/\True/\∃ (g':Nat),let z13:=(g.ed g_1++z5.ed g'); A (z22.pre g')/\((True/\A z26/\z2/\z10/\z21/\z9/\z27/\(A z1/\A (z20+z28=(↑g':Int)))/\True)/\(A (z4.length=z13.length)/\∀ i:Nat,i<z13.length->(((((True/\A z1/\A ((eI z4 i).x=(eI z13 i).x))/\A z1/\A ((eI z4 i).y=(eI z13 i).y))/\A z1/\A ((eI z4 i).en=(eI z13 i).en))/\A z1/\A ((eI z4 i).dx=(eI z13 i).dx))/\A z1/\A ((eI z4 i).dy=(eI z13 i).dy))/\A z1/\A ((eI z4 i).s=(eI z13 i).s))/\z7/\True)/\A (z22.meas g'<z22.meas g_2)); z22.pre g_2->True/\K (decide (z20<z17)) (True/\A ((0:Int)<=z20/\z20<z17)/\True/\True/\True/\True/\True/\True/\True/\A z8/\True/\True/\True/\A (z17≠(0:Int))/\A ((0:Int)<=(z20+z28).tmod z17/\(z20+z28).tmod z17<z17)/\True/\True/\True/\True/\True/\True/\True/\True/\True/\K (decide (z3.y<z6.y)) (True/\True/\True/\True/\True/\True/\True/\True/\True/\True/\K (decide (z3.y<z6.y)) (True/\True/\True/\True/\True/\True/\True/\True/\True/\True/\True/\A (z16<=z6.x-z3.x/\z6.x-z3.x<=z18)/\True/\True/\True/\True/\A (z16<=z6.y-z3.y/\z6.y-z3.y<=z18)/\True/\True/\True/\A z19/\True/\A z8/\True/\∃ (g':Nat),let z14:=(g.ed g_1++z5.ed g'); A (z22.pre g')/\((True/\A z26/\z2/\z10/\z21/\z9/\z27/\(A z1/\A (z20+z28=(↑g':Int)))/\True)/\(A (z4.length+(1:Nat)=z14.length)/\∀ i:Nat,let z29:=(i<z4.length); i<z14.length->(((((True/\A z1/\A ((bif decide z29 then (eI z4 i).x else z3.x)=(eI z14 i).x))/\A z1/\A ((bif decide z29 then (eI z4 i).y else z3.y)=(eI z14 i).y))/\A z1/\A ((bif decide z29 then (eI z4 i).en else z6.y)=(eI z14 i).en))/\A z1/\A ((bif decide z29 then (eI z4 i).dx else z6.x-z3.x)=(eI z14 i).dx))/\A z1/\A ((bif decide z29 then (eI z4 i).dy else z6.y-z3.y)=(eI z14 i).dy))/\A z1/\A ((bif decide z29 then (eI z4 i).s else (-1:Int))=(eI z14 i).s))/\z7/\True)/\A (z22.meas g'<z22.meas g_2)) z0) (True/\True/\True/\True/\True/\K (decide (z6.y<z3.y)) (True/\True/\True/\True/\True/\True/\True/\True/\True/\True/\True/\A (z16<=z3.x-z6.x/\z3.x-z6.x<=z18)/\True/\True/\True/\True/\A (z16<=z3.y-z6.y/\z3.y-z6.y<=z18)/\True/\True/\True/\A z19/\True/\A z8/\True/\∃ (g':Nat),let z15:=(g.ed g_1++z5.ed g'); A (z22.pre g')/\((True/\A z26/\z2/\z10/\z21/\z9/\z27/\(A z1/\A (z20+z28=(↑g':Int)))/\True)/\(A (z4.length+(1:Nat)=z15.length)/\∀ i:Nat,let z30:=(i<z4.length); i<z15.length->(((((True/\A z1/\A ((bif decide z30 then (eI z4 i).x else z6.x)=(eI z15 i).x))/\A z1/\A ((bif decide z30 then (eI z4 i).y else z6.y)=(eI z15 i).y))/\A z1/\A ((bif decide z30 then (eI z4 i).en else z3.y)=(eI z15 i).en))/\A z1/\A ((bif decide z30 then (eI z4 i).dx else z3.x-z6.x)=(eI z15 i).dx))/\A z1/\A ((bif decide z30 then (eI z4 i).dy else z3.y-z6.y)=(eI z15 i).dy))/\A z1/\A ((bif decide z30 then (eI z4 i).s else z28)=(eI z15 i).s))/\z7/\True)/\A (z22.meas g'<z22.meas g_2)) z0)) (A (z16<=z11+z28/\z11+z28<=z18)/\True/\∃ (g':Nat),A ((edOut g).pre g')/\((True/\z2/\z10/\(A z1/\A (z11+z28=(↑g':Int)))/\True)/\(A (z4.length=(g.ed g').length)/\∀ i:Nat,let z25:=(eI (g.ed g') i); i<(g.ed g').length->(((((True/\A z1/\A ((eI z4 i).x=z25.x))/\A z1/\A ((eI z4 i).y=z25.y))/\A z1/\A ((eI z4 i).en=z25.en))/\A z1/\A ((eI z4 i).dx=z25.dx))/\A z1/\A ((eI z4 i).dy=z25.dy))/\A z1/\A ((eI z4 i).s=z25.s))/\True)/\A ((edOut g).meas g'<(edOut g).meas g_1))) (True/\True/\True/\(True/\True)/\(A (z23.length=g.E.length)/\∀ i:Nat,i<g.E.length->(((((True/\A z1/\A ((eI z23 i).x=(eI g.E i).x))/\A z1/\A ((eI z23 i).y=(eI g.E i).y))/\A z1/\A ((eI z23 i).en=(eI g.E i).en))/\A z1/\A ((eI z23 i).dx=(eI g.E i).dx))/\A z1/\A ((eI z23 i).dy=(eI g.E i).dy))/\A z1/\A ((eI z23 i).s=(eI g.E i).s))/\True)) (by kernel_rfl) ?_
 simp only [ask_iff,br_iff,eq_self,true_and,and_true,implies_true,forall_const,decide_eq_true_eq,decide_eq_false_iff_not,ne_eq,Nat.mul_one,Nat.add_zero,Nat.zero_add,Int.toNat_natCast,and_self,List.append_assoc,false_and,and_false]
 have hn:g.n<=1024:=hg.1
 refine ⟨⟨0,⟨Nat.zero_le _,⟨rfl,rfl,fun i hi=>absurd hi (Nat.not_lt_zero _)⟩⟩⟩,fun i hi=>?_⟩
 have hi:i<=g.n:=hi
 refine ⟨fun h=>?_,fun h=>?_⟩
 ·have hp:=hg.2 i (by omega)
  have hn2:(g.f i).n<=1024:=hp.1
  have hl1:=Lns.ed_len hg i hi
  have e0:g.ed i=g.ed i++(g.f i).ed 0:=(List.append_nil _).symm
  refine ⟨by omega,⟨0,Nat.zero_le _,rfl,by rw [<-e0],fun k hk=>same_of (by rw [<-e0])⟩,fun j hj=>?_⟩
  have hj:j<=(g.f i).n:=hj
  have hl2:=Li.ed_len (g.f i) j
  refine ⟨fun hlt=>?_,fun hge=>?_⟩
  ·have hjn:j<(g.f i).n:=by omega
   have hm:(j+1) % (g.f i).n<(g.f i).n:=Nat.mod_lt _ (by omega)
   have ht:((j:Int)+1).tmod ((g.f i).n:Int)=(((j+1) % (g.f i).n:Nat):Int):=rfl
   have ha:=hp.2 j hjn
   have hb:=hp.2 _ hm
   have hlen:(g.ed i++(g.f i).ed j).length<=1049600:=by
    rw [List.length_append]
    have:=Nat.mul_le_mul_left 1024 hi
    omega
   have hnext:g.ed i++(g.f i).ed (j+1)=(g.ed i++(g.f i).ed j)++mkE ((g.f i).f j) ((g.f i).f ((j+1) % (g.f i).n)):=by
    show g.ed i++((g.f i).ed j++_)=_
    rw [List.append_assoc]
   have hpre:(edIn g i).pre (j+1):=by show j+1<=(g.f i).n; omega
   have hmeas:(edIn g i).meas (j+1)<(edIn g i).meas j:=by
    show (g.f i).n-(j+1)<(g.f i).n-j
    omega
   have hm0:(0:Int)<=(((j+1) % (g.f i).n:Nat):Int)/\(((j+1) % (g.f i).n:Nat):Int)<((g.f i).n:Int):=by omega
   rw [ht,Int.toNat_natCast]
   clear ht hm
   generalize g.ed i++(g.f i).ed j=L at *
   generalize hq:(j+1) % (g.f i).n=q at *
   generalize (g.f i).f j=a at *
   generalize (g.f i).f q=b at *
   obtain ⟨⟨a1,a2⟩,a3,a4⟩:=ha
   obtain ⟨⟨b1,b2⟩,b3,b4⟩:=hb
   have up:(j:Int)+1=((j+1:Nat):Int):=rfl
   refine ⟨by omega,by omega,by omega,hm0,fun c1=>⟨fun _=>?_,fun c2=>absurd c1 c2⟩,fun c1=>⟨fun c2=>?_,fun c2=>?_⟩⟩
   ·have hM:g.ed i++(g.f i).ed (j+1)=L++[⟨b.x,b.y,a.y,a.x-b.x,a.y-b.y,-1⟩]:=by
     rw [hnext]; unfold mkE; rw [if_neg (by omega),if_pos c1]
    refine ⟨by omega,by omega,by omega,by omega,j+1,hpre,⟨up,by rw [hM]; simp,app_of hM⟩,hmeas⟩
   ·have hM:g.ed i++(g.f i).ed (j+1)=L++[⟨a.x,a.y,b.y,b.x-a.x,b.y-a.y,1⟩]:=by
     rw [hnext]; unfold mkE; rw [if_pos c2]
    refine ⟨by omega,by omega,by omega,by omega,j+1,hpre,⟨up,by rw [hM]; simp,app_of hM⟩,hmeas⟩
   ·have hM:g.ed i++(g.f i).ed (j+1)=L:=by
     rw [hnext]; unfold mkE; rw [if_neg c2,if_neg c1]; exact List.append_nil _
    refine ⟨by omega,j+1,hpre,⟨up,by rw [hM],fun k hk=>same_of (by rw [hM])⟩,hmeas⟩
  ·obtain rfl:j=(g.f i).n:=by omega
   refine ⟨by omega,i+1,(show i+1<=g.n by omega),⟨rfl,rfl,fun k hk=>same_of rfl⟩,?_⟩
   show g.n-(i+1)<g.n-i
   omega
 ·obtain rfl:i=g.n:=by omega
  exact ⟨rfl,fun k hk=>same_of rfl⟩
end Go.Proofs.YtmhofgchidojoaaGreat.Fla
set_option linter.unusedSimpArgs false
set_option linter.unusedVariables false
namespace Go.Proofs.YtmhofgchidojoaaGreat.Sx
open Go.RowKit Aff Con Fla
theorem noOwn_li (l:Li) (j:Nat):noOwn (lst (liL l) j):=noOwn_lst (l:=liL l) ⟨fun i j=>noOwn_lst (l:=ptL (l.f i)) ⟨trivial,trivial,trivial⟩ j,trivial,trivial⟩ j
theorem leaf_lines {w:World}{v:Value}(h:Leaf Tryz.prog w 22 v) :
  ∃ g:Lns,R w (fun _=>False) E0 (lnsS g) v/\g.n<=maxLen/\∀ i,i<g.n->(g.f i).n<=maxLen:=by
 obtain ⟨xs,h3,h4,h5⟩:=sl_of_leaf (n:=20) (ls:=[29,4]) (α:=Value×Bool) (c:=fun x=>[x.1,.bool x.2]) (mk:=fun cs=>(cs.getD 0 undef,boolOf (ofV (cs.getD 1 undef)))) (ok:=fun x=>Leaf Tryz.prog w 29 x.1)
  Tryz.underlying22 (show Tryz.prog.cellsOf 31=2 by kernel_rfl) (by decide) (by kernel_rfl) (fun cs hcs=>by
   obtain ⟨y,m,rfl,e1,l1⟩:=All2.cons_inv hcs
   obtain ⟨z,m',rfl,e2,l2⟩:=All2.cons_inv l1
   obtain rfl:=All2.nil_inv l2
   obtain ⟨b,rfl⟩:=leaf_bool Tryz.underlying4 e2
   exact ⟨rfl,e1⟩) h
 have pts:∀ v,Leaf Tryz.prog w 29 v->∃ (len:Nat) (f:Nat->Pt),R w (fun _=>False) E0 (.sl len 2 (fun i=>lst (ptL (f i)))) v/\len<=maxLen:=fun v hv=>by
  obtain ⟨len,f,hR,_,hlen⟩:=leaf_rows (k:= .i64) (t:=3) 2 Tryz.underlying29 Tryz.underlying3 (by kernel_rfl) (by decide) (by kernel_rfl) hv
  exact ⟨len,fun i=>⟨f i 0,f i 1⟩,hR _ (fun i j hj=>match j,hj with | 0,_=>rfl | 1,_=>rfl),hlen⟩
 have one:∀ v,Leaf Tryz.prog w 29 v->oneCell v:=fun v hv=>by
  rcases leaf_slice Tryz.underlying29 hv with rfl | ⟨a,len,cap,rfl,_⟩<;>exact rfl
 have ch:∀ v:Value,∃ r:Nat×(Nat->Pt),Leaf Tryz.prog w 29 v->R w (fun _=>False) E0 (.sl r.1 2 (fun i=>lst (ptL (r.2 i)))) v/\r.1<=maxLen:=fun v=>by
  by_cases hv:Leaf Tryz.prog w 29 v
  ·obtain ⟨len,f,h⟩:=pts v hv
   exact ⟨(len,f),fun _=>h⟩
  ·exact ⟨(0,fun _=>⟨0,0⟩),fun h=>absurd h hv⟩
 obtain ⟨F,hF⟩:=Classical.axiomOfChoice ch
 refine ⟨⟨xs.length,fun i=>⟨(F (xs.getD i (undef,false)).1).1,(F (xs.getD i (undef,false)).1).2,(xs.getD i (undef,false)).2⟩⟩,R_sl (by decide) h3 (fun _=>id) fun i j hi hj=>?_,h5,fun i hi=>?_⟩
 ·have e:xs.getD i (undef,false)=xs[i]:=by rw [List.getD_eq_getElem?_getD,List.getElem?_eq_getElem hi]; rfl
  have hx:=h4 xs[i] (List.getElem_mem hi)
  show ∃ u,_/\_/\R w _ E0 (lst (liL ⟨(F (xs.getD i (undef,false)).1).1,(F (xs.getD i (undef,false)).1).2,(xs.getD i (undef,false)).2⟩) j) u
  rw [e]
  match j,hj with
  | 0,_=>exact ⟨_,rfl,one _ hx,(hF _ hx).1⟩
  | 1,_=>exact ⟨_,rfl,rfl,.bool⟩
 ·have hi:i<xs.length:=hi
  have e:xs.getD i (undef,false)=xs[i]:=by rw [List.getD_eq_getElem?_getD,List.getElem?_eq_getElem hi]; rfl
  have hx:=h4 xs[i] (List.getElem_mem hi)
  show (F (xs.getD i (undef,false)).1).1<=maxLen
  rw [e]
  exact (hF _ hx).2
end Go.Proofs.YtmhofgchidojoaaGreat.Sx
set_option linter.unusedSimpArgs false
set_option linter.unusedVariables false
namespace Go.Proofs.YtmhofgchidojoaaGreat.Ptr
open Go.RowKit Sx Num Aff Con Fla
set_option maxRecDepth 100000
structure PtG where
 n:Nat
 f:Nat->Pt
def ptsS (g:PtG):SV:= .sl g.n 2 (fun i=>lst (ptL (g.f i)))
def ptRow (ver n:Nat) (f:Nat->Pt):SO:= .row ver n 2 (fun i=>lst (ptL (f i))) 28
def rvF (f:Nat->Pt) (n i k:Nat):Pt:=if k<i\/n<=k+i then f (n-1-k) else f k
theorem pt_same {a b:Pt}(h:a=b):a.x=b.x/\a.y=b.y:=by rw [h]; exact ⟨rfl,rfl⟩
theorem pt2 {p0 p1 q0 q1:Prop} [Decidable p0] [Decidable p1] [Decidable q0] [Decidable q1] {r t e f:Pt}{p q:Prop} [Decidable p] [Decidable q] (h:f=if p then r else if q then t else e) (hp:(p0<->p)/\(p1<->p)) (hq:(q0<->q)/\(q1<->q)) :
  ((bif decide p0 then r.x else bif decide q0 then t.x else e.x)=f.x/\(bif decide p1 then r.y else bif decide q1 then t.y else e.y)=f.y):=by
 obtain ⟨a0,a1⟩:=hp
 obtain ⟨b0,b1⟩:=hq
 rw [h]
 simp only [a0,a1,b0,b1]
 by_cases hp:p
 ·simp [hp]
 ·by_cases hq:q<;>simp [hp,hq]
def rvInv (g:PtG):Inv:=⟨Nat,fun i=>2*i<=g.n,fun i=>⟨[(0,.osl 0 0),(2,.int .i64 i),(3,.int .i64 ((g.n:Int)-1-i))],[ptRow 0 g.n (rvF g.f g.n i)]⟩,fun i=>g.n-i⟩
def spRevP:FSpec:=mkSpecM 53 [.arg 0] (γ:=PtG) (fun | [_],[.row _ n _ g _]=>some ⟨n,fun i=>ptD (g i)⟩ | _,_=>none) (fun _=>[.osl 0 0]) (fun g=>[ptRow 0 g.n g.f]) (fun g=>g.n<=4294967296) (fun _=> .tup 0 (lst [])) (fun g=>[ptRow 0 g.n (fun k=>g.f (g.n-1-k))])
theorem ok_revP:SpecOK Tryz.prog spRevP:=by
 refine spec_soundM (specs:=[]) (all_ok trivial) (eqs:=[]) (fun _ _ h=>(List.not_mem_nil h).elim) Aff.mixed Tryz.func53 rfl (by kernel_rfl) (fun _ _=>by kernel_rfl) (fun g=>(⟨[(1,.inv (rvInv g))],[]⟩:Ann)) true (fun g=>Nat.le_of_ble_eq_true (by kernel_rfl)) ?_
 rintro g hg
 refine vc_of (B:=let A:=Sx.Ask;let z7:=(9223372036854775807:Int);let z6:=(-9223372036854775808:Int);let z4:=(0:Nat);let z3:=(1:Int);let z2:=(↑g.n:Int);let z1:=(IntKind.i64=IntKind.i64);True/\True/\A (z6<=z2-z3/\z2-z3<=z7)/\True/\True/\(∃ g_1:Nat,A ((rvInv g).pre g_1)/\True/\(True/\(A z1/\A ((0:Int)=(↑g_1:Int)))/\(A z1/\A (z2-z3=z2-z3-(↑g_1:Int)))/\True)/\(A (g.n=g.n)/\∀ i:Nat,i<g.n->(True/\A z1/\A ((g.f i).x=(rvF g.f g.n g_1 i).x))/\A z1/\A ((g.f i).y=(rvF g.f g.n g_1 i).y))/\True)/\∀ g_1:Nat,let z0:=(↑g_1:Int);let z8:=((0:Int)<=z2-z3-z0/\z2-z3-z0<z2);let z5:=(z2-z3-z0); (rvInv g).pre g_1->True/\True/\True/\Sx.Br (decide (z0<z2-z3-z0)) (True/\True/\True/\True/\True/\True/\A z8/\A (z5.toNat<g.n)/\True/\True/\A ((0:Int)<=z0/\z0<z2)/\A (z0.toNat<g.n)/\A ((0:Int)<=z0/\z0<z2)/\A (z0.toNat<g.n)/\A z8/\A (z5.toNat<g.n)/\True/\A (z6<=z0+z3/\z0+z3<=z7)/\True/\A (z6<=z2-z3-z0-z3/\z2-z3-z0-z3<=z7)/\True/\True/\∃ (g':Nat),A ((rvInv g).pre g')/\True/\((True/\(A z1/\A (z0+z3=(↑g':Int)))/\(A z1/\A (z2-z3-z0-z3=z2-z3-(↑g':Int)))/\True)/\(A (g.n=g.n)/\∀ i:Nat,i<g.n->(True/\A z1/\A ((bif decide (i=z5.toNat/\z4<=z4/\z4<z4+(2:Nat)) then (rvF g.f g.n g_1 z0.toNat).x else bif decide (i=z0.toNat/\z4<=z4/\z4<z4+(2:Nat)) then (rvF g.f g.n g_1 z5.toNat).x else (rvF g.f g.n g_1 i).x)=(rvF g.f g.n g' i).x))/\A z1/\A ((bif decide (i=z5.toNat/\z4<=(1:Nat)/\(1:Nat)<z4+(2:Nat)) then (rvF g.f g.n g_1 z0.toNat).y else bif decide (i=z0.toNat/\z4<=(1:Nat)/\(1:Nat)<z4+(2:Nat)) then (rvF g.f g.n g_1 z5.toNat).y else (rvF g.f g.n g_1 i).y)=(rvF g.f g.n g' i).y))/\True)/\A ((rvInv g).meas g'<(rvInv g).meas g_1)) (True/\True/\(True/\True)/\(A (g.n=g.n)/\∀ i:Nat,i<g.n->(True/\A z1/\A ((rvF g.f g.n g_1 i).x=(g.f (g.n-(1:Nat)-i)).x))/\A z1/\A ((rvF g.f g.n g_1 i).y=(g.f (g.n-(1:Nat)-i)).y))/\True)) (by kernel_rfl) ?_
 simp only [ask_iff,br_iff,eq_self,true_and,and_true,implies_true,forall_const,decide_eq_true_eq,decide_eq_false_iff_not,ne_eq,Nat.mul_one,Nat.add_zero,Nat.zero_add,Int.toNat_natCast,and_self,List.append_assoc,false_and,and_false]
 have hg:g.n<=4294967296:=hg
 refine ⟨by omega,⟨0,Nat.zero_le _,⟨rfl,by show (g.n:Int)-1=(g.n:Int)-1-((0:Nat):Int); omega⟩,fun k hk=>pt_same ?_⟩,fun i hi=>⟨fun hlt=>?_,fun hge k hk=>pt_same ?_⟩⟩
 ·unfold rvF; rw [if_neg (by omega)]
 ·have hi:2*i<=g.n:=hi
  have ez:((g.n:Int)-1-(i:Int)).toNat=g.n-1-i:=by omega
  rw [ez]
  refine ⟨by omega,by omega,by omega,by omega,by omega,by omega,by omega,by omega,by omega,by omega,i+1,(show 2*(i+1)<=g.n by omega),⟨⟨by omega,by omega⟩,fun k hk=>pt2 (p:=k=g.n-1-i) (q:=k=i) ?_ ⟨by simp,by simp⟩ ⟨by simp,by simp⟩⟩,by show g.n-(i+1)<g.n-i; omega⟩
  ·unfold rvF
   by_cases c1:k=g.n-1-i
   ·rw [if_pos c1,if_neg (show ¬ (i<i\/g.n<=i+i) by omega),if_pos (by omega)]
    congr 1; omega
   ·by_cases c2:k=i
    ·rw [if_neg c1,if_pos c2,if_neg (show ¬ (g.n-1-i<i\/g.n<=g.n-1-i+i) by omega),if_pos (by omega)]
     congr 1; omega
    ·rw [if_neg c1,if_neg c2]
     by_cases c3:k<i\/g.n<=k+i
     ·rw [if_pos c3,if_pos (by omega)]
     ·rw [if_neg c3,if_neg (by omega)]
 ·have hi:2*i<=g.n:=hi
  unfold rvF
  by_cases c3:k<i\/g.n<=k+i
  ·rw [if_pos c3]
  ·rw [if_neg c3]
   congr 1; omega
end Go.Proofs.YtmhofgchidojoaaGreat.Ptr
namespace Go.Proofs
open Go.Shelf
def Tryz.lays125_ren:Go.Shelf.Ren:=⟨fun | 125=>42 | 128=>64 | 129=>65 | n=>n,fun | 46=>89 | 3=>3 | 51=>124 | 53=>126 | 4=>4 | 5=>5 | 9=>9 | n=>n,fun | n=>n⟩
theorem Tryz.lays125:Go.Proofs.Lays.n125 Tryz.prog Tryz.lays125_ren:={
  mixed:=by kernel_rfl
  f125:=Tryz.func42.trans (congrArg some (by kernel_rfl))
  f128:=Tryz.func64.trans (congrArg some (by kernel_rfl))
  f129:=Tryz.func65.trans (congrArg some (by kernel_rfl))
  t3:=Tryz.underlying3
  a3:=Tryz.isAgg3
  z3:=Tryz.sizeOf3
  v3:=Tryz.zeroValue3
  t4:=Tryz.underlying4
  a4:=Tryz.isAgg4
  z4:=Tryz.sizeOf4
  v4:=Tryz.zeroValue4
  t5:=Tryz.underlying5
  a5:=Tryz.isAgg5
  z5:=Tryz.sizeOf5
  v5:=Tryz.zeroValue5
  t9:=Tryz.underlying9
  a9:=Tryz.isAgg9
  z9:=Tryz.sizeOf9
  v9:=Tryz.zeroValue9
  t46:=Tryz.underlying89
  a46:=Tryz.isAgg89
  z46:=Tryz.sizeOf89
  v46:=Tryz.zeroValue89
  t51:=Tryz.underlying124
  a51:=Tryz.isAgg124
  z51:=Tryz.sizeOf124
  v51:=Tryz.zeroValue124
  t53:=Tryz.underlying126
  a53:=Tryz.isAgg126
  z53:=Tryz.sizeOf126
  v53:=Tryz.zeroValue126 }
theorem Tryz.bits_Len (x:Int) (w:World) (h0:0<=x) (h1:x<=18446744073709551615) :
  Calls Tryz.prog 42 #[.int .u64 x] w fun e w'=>e = .returned (.int .i64 (Lib.bitLen x.toNat))/\w'=w:=Any.bits_Len Tryz.lays125 x w h0 h1
end Go.Proofs
set_option linter.unusedSimpArgs false
set_option linter.unusedVariables false
namespace Go.Proofs.YtmhofgchidojoaaGreat.Num
open Go.RowKit
def isq:Nat->Nat
 | 0=>0
 | n+1=>if (isq n+1)*(isq n+1)<=n+1 then isq n+1 else isq n
theorem sq_mono {a b:Nat}(h:a<=b):a*a<=b*b:=Nat.mul_le_mul h h
theorem sq_succ (a:Nat):(a+1)*(a+1)=a*a+2*a+1:=by rw [Nat.add_mul,Nat.mul_add]; omega
theorem isq_spec:∀ n,isq n*isq n<=n/\n<(isq n+1)*(isq n+1)
 | 0=>by decide
 | n+1=>by
  have ih:=isq_spec n
  unfold isq
  have e1:=sq_succ (isq n)
  have e2:=sq_succ (isq n+1)
  split<;>omega
theorem isq_unique {n r:Nat}(h1:r*r<=n) (h2:n<(r+1)*(r+1)):isq n=r:=by
 have hs:=isq_spec n
 rcases Nat.lt_trichotomy (isq n) r with h | h | h
 ·have:=sq_mono (show isq n+1<=r by omega); omega
 ·exact h
 ·have:=sq_mono (show r+1<=isq n by omega); omega
theorem newton {n x:Nat}(hx:1<=x):n<((x+n / x) / 2+1)*((x+n / x) / 2+1):=by
 have h1:n<(n / x+1)*x:=by
  have:=Nat.lt_mul_div_succ n (show 0<x by omega)
  rw [Nat.mul_comm] at this; exact this
 generalize n / x=q at *
 have h2:x+q+1<=2*((x+q) / 2+1):=by omega
 generalize (x+q) / 2+1=y at *
 have h3:4*((q+1)*x)<=(x+q+1)*(x+q+1):=by
  rcases Nat.le_total x (q+1) with h | h
  ·obtain ⟨d,hd⟩:=Nat.exists_eq_add_of_le h
   rw [hd,show x+q+1=2*x+d by omega]; grind
  ·obtain ⟨d,hd⟩:=Nat.exists_eq_add_of_le h
   rw [show x+q+1=2*(q+1)+d by omega,hd]; grind
 have h4:=sq_mono h2
 have h5:2*y*(2*y)=4*(y*y):=by grind
 omega
theorem newton_end {n x:Nat}(hx:1<=x) (h:n<(x+1)*(x+1)) (hy:x<=(x+n / x) / 2):isq n=x:=by
 refine isq_unique ?_ h
 have h1:x<=n / x:=by omega
 have h2:=Nat.div_mul_le_self n x
 have h3:x*x<=n / x*x:=Nat.mul_le_mul_right x h1
 omega
theorem start (n L:Nat) (h:n<2 ^ L):n<(2 ^ ((L+1) / 2)+1)*(2 ^ ((L+1) / 2)+1):=by
 have h1:2 ^ L<=2 ^ ((L+1) / 2)*2 ^ ((L+1) / 2):=by
  rw [<-Nat.pow_add]; exact Nat.pow_le_pow_right (by omega) (by omega)
 have h2:=sq_succ (2 ^ ((L+1) / 2))
 omega
theorem isq_small {n:Nat}(h:n<2):isq n=n:=by
 match n,h with
 | 0,_=>rfl
 | 1,_=>rfl
theorem sqrt (n:Nat) (w:World) (h:(n:Int)<=4611686018427387904) :
  Calls Tryz.prog 24 #[.int .i64 n] w fun e w'=>e = .returned (.int .i64 (isq n))/\w=w':=by
 by_cases h2:(n:Int)<2
 ·have H:Hid ((n:Int)=(isq n:Nat)):=by show _=_; rw [isq_small (by omega)]
  go_enter Tryz.func24,Tryz.ntmps24
  go_wp2
  go_ret
  exact ⟨ret_int H.out,rfl⟩
 ·have hb:=Go.Lib.bitLenAux_bounds 64 n (by omega) (by omega)
  have hL:Lib.bitLen n<=63:=Lib.bitLen_le n 63 (by omega) (by omega)
  obtain ⟨L,hLe⟩:∃ L,L=Lib.bitLen n:=⟨_,rfl⟩
  have hb3:n<2 ^ L:=by rw [hLe]; exact hb.2.2
  have hL1:1<=L:=by rw [hLe]; exact hb.1
  rw [<-hLe] at hL
  have hs:=start n L hb3
  have hp1:1<=2 ^ ((L+1) / 2):=Nat.one_le_two_pow
  have hp2:2 ^ ((L+1) / 2)<=2 ^ 32:=Nat.pow_le_pow_right (by omega) (by omega)
  have HS:=Lib.hid hs
  have HL:=Lib.hid hLe
  clear hs hLe hb hb3
  go_enter Tryz.func24,Tryz.ntmps24
  go_wp2_with fail
  refine (Tryz.bits_Len n _ (by omega) (by omega)).mono ?_
  rintro e w' ⟨rfl,rfl⟩
  rw [Int.toNat_natCast,<-HL.out]
  go_wp2_with fail
  obtain ⟨x0,hx0⟩:∃ x:Nat,x=2 ^ ((L+1) / 2):=⟨_,rfl⟩
  have HS2:Hid (n<(x0+1)*(x0+1)):=by rw [hx0]; exact HS.out
  rw [<-hx0] at hp1 hp2
  have e:wrap64 ((2:Int) ^ ((L+1) / 2))=(x0:Int):=by
   have e2:(2:Int) ^ ((L+1) / 2)=(x0:Int):=by rw [hx0]; norm_cast
   rw [e2]; exact IntWalk.wrap64_in _ (by omega)
  rw [e]
  clear e hx0 HS HL
  go_loop [3,4] (fun x y=>∃ k:Nat,x = .int .i64 k/\1<=k/\k<=4294967296/\Hid (n<(k+1)*(k+1))) (fun x _=>(intOf x).toNat)
  case atStart=>exact ⟨x0,rfl,hp1,by omega,HS2⟩
  case round=>
   obtain ⟨k,rfl,h3,h4,HK⟩:=hrel
   have hq:((n / k:Nat):Int)=(n:Int) / (k:Int):=by norm_cast
   have hq1:n / k<=n:=Nat.div_le_self n k
   have HN:Hid (n<((k+n / k) / 2+1)*((k+n / k) / 2+1)):=newton h3
   have HE:k<=(k+n / k) / 2->Hid ((k:Int)=(isq n:Nat)):=fun hh=>by show _=_; rw [newton_end h3 HK.out hh]
   have hq2:2<=k+n / k:=by
    by_cases e1:k=1
    ·rw [e1,Nat.div_one]; omega
    ·exact Nat.le_trans (show 2<=k by omega) (Nat.le_add_right k _)
   generalize n / k=q at *
   by_cases hge:k<=(k+q) / 2
   ·have HE2:=HE hge
    clear HE HN
    go_wp2
    go_ret
    exact ⟨ret_int HE2.out,rfl⟩
   ·clear HE
    go_wp2
    go_round
    case rel=>exact ⟨(k+q) / 2,by go_num,by omega,by omega,HN⟩
    case measure=>simp [intOf]; omega
end Go.Proofs.YtmhofgchidojoaaGreat.Num
set_option linter.unusedSimpArgs false
set_option linter.unusedVariables false
namespace Go.Proofs.YtmhofgchidojoaaGreat.Dsh
open Go.RowKit Sx Num Aff Con
set_option maxRecDepth 100000
def spSqrt:FSpec:=mkSpec 24 (γ:=Int) (fun | [.int _ x]=>some x | _=>none) (fun x=>[.int .i64 x]) (fun x=>0<=x/\x<=4611686018427387904) (fun x=> .int .i64 (isq x.toNat))
theorem ok_sqrt:SpecOK Tryz.prog spSqrt:=by
 refine specOK_of (fun _ _=>by kernel_rfl) ?_
 rintro x ⟨x0,x1⟩ vals w X hsz hr hX
 have r0:=hr 0 (by simp)
 simp only [List.getD_cons_zero] at r0
 generalize e0:vals.getD 0 undef=v0 at r0
 cases r0
 obtain ⟨n,rfl⟩:=Int.eq_ofNat_of_zero_le x0
 have hvals:vals = #[.int .i64 n]:=by
  obtain ⟨l⟩:=vals
  match l,hsz with
  | [x],_=>simp at e0; rw [e0]
 rw [hvals]
 refine (sqrt n w x1).mono ?_
 rintro e w' ⟨rfl,rfl⟩
 exact ⟨_,rfl,.int,Below.refl _ _⟩
structure Sd where
 p:Pt
 q:Pt
 o:Int
 size:Int
def sdL (s:Sd):List SV:=[.int .i64 s.p.x,.int .i64 s.p.y,.int .i64 s.q.x,.int .i64 s.q.y,.int .i64 s.o,.int .i64 s.size]
def sdD (g:Nat->SV):Sd:=⟨⟨Sx.intOf (g 0),Sx.intOf (g 1)⟩,⟨Sx.intOf (g 2),Sx.intOf (g 3)⟩,Sx.intOf (g 4),Sx.intOf (g 5)⟩
def lenPt (p q:Pt):Int:=isq ((q.x-p.x)*(q.x-p.x)+(q.y-p.y)*(q.y-p.y)).toNat
structure AdG where
 p:Pt
 q:Pt
 o:Int
 n:Nat
 f:Nat->Sd
def adD:List SV->List SO->Option AdG
 | [.agg _ p,.agg _ q,_,_],[.cells _ a _,_,.row _ n _ g _]=>some ⟨ptD p,ptD q,Sx.intOf (a 0),n,fun i=>sdD (g i)⟩
 | _,_=>none
def small (M:Int) (p:Pt):Prop:=(-M<=p.x/\p.x<=M)/\ -M<=p.y/\p.y<=M
def AdG.ok (g:AdG):Prop:=(small 32767 g.p/\small 32767 g.q)/\(0<=g.o/\g.o<=1099511627776)/\g.n<=65536
def AdG.sd (g:AdG):Sd:=⟨g.p,g.q,g.o,lenPt g.p g.q⟩
def spAdd:FSpec:=mkSpecM 23 [.arg 2,.arg 3,.cell 1 0] adD (fun g=>[ptS g.p,ptS g.q,.own 0 0,.own 1 0])
 (fun g=>[.cells 1 (lst [.int .i64 g.o]) 3,.cells 1 (lst [.osl 2 0]) 43,.row 0 g.n 6 (fun i=>lst (sdL (g.f i))) 65]) AdG.ok
 (fun _=> .tup 0 (lst []))
 (fun g=>[.cells 1 (lst [.int .i64 (g.o+g.sd.size)]) 3,.cells 1 (lst [.osl 2 1]) 43,.row 1 (g.n+1) 6 (fun i=>lst (sdL (if i<g.n then g.f i else g.sd))) 65])
theorem sq_in {a M:Int}(h : -M<=a/\a<=M):0<=a*a/\a*a<=M*M:=by
 have e:=Int.natAbs_mul_self (a:=a)
 have h2:=(mul_in h h).2
 exact ⟨by rw [<-e]; exact Int.natCast_nonneg _,h2⟩
theorem isq_le (n:Nat):isq n<=n:=by
 have h:=(isq_spec n).1
 rcases Nat.eq_zero_or_pos (isq n) with h0 | h0
 ·omega
 ·exact Nat.le_trans (Nat.le_mul_of_pos_right _ h0) h
theorem len_in {p q:Pt}{M:Int}(hp:small M p) (hq:small M q):0<=lenPt p q/\lenPt p q<=2*(2*M*(2*M)):=by
 obtain ⟨⟨a1,a2⟩,a3,a4⟩:=hp
 obtain ⟨⟨b1,b2⟩,b3,b4⟩:=hq
 have s1:=sq_in (a:=q.x-p.x) (M:=2*M) ⟨by omega,by omega⟩
 have s2:=sq_in (a:=q.y-p.y) (M:=2*M) ⟨by omega,by omega⟩
 unfold lenPt
 have:=isq_le ((q.x-p.x)*(q.x-p.x)+(q.y-p.y)*(q.y-p.y)).toNat
 omega
theorem ok_add:SpecOK Tryz.prog spAdd:=by
 refine spec_soundM (specs:=[spSqrt]) (all_ok (⟨ok_sqrt,trivial⟩)) (eqs:=[]) (fun _ _ h=>(List.not_mem_nil h).elim) Aff.mixed Tryz.func23 rfl (by kernel_rfl) (fun _ _=>by kernel_rfl) (fun g=>A0) false (fun g=>Nat.le_of_ble_eq_true (by kernel_rfl)) ?_
 rintro g hg
 refine vc_of (B:=let A:=Sx.Ask;let z6:=(9223372036854775807:Int);let z5:=(-9223372036854775808:Int);let z3:=(IntKind.i64=IntKind.i64);let z2:=(g.q.y-g.p.y);let z1:=(g.q.x-g.p.x);let z0:=(↑(isq (z1*z1+z2*z2).toNat):Int);True/\True/\True/\True/\True/\True/\A (z5<=g.q.x-g.p.x/\g.q.x-g.p.x<=z6)/\True/\True/\True/\True/\A (z5<=g.q.y-g.p.y/\g.q.y-g.p.y<=z6)/\True/\True/\True/\True/\True/\True/\True/\A (z5<=z1*z1/\z1*z1<=z6)/\True/\True/\A (z5<=z2*z2/\z2*z2<=z6)/\A (z5<=z1*z1+z2*z2/\z1*z1+z2*z2<=z6)/\(((A z3/\A (z1*z1+z2*z2=z1*z1+z2*z2))/\True)/\A ((0:Int)<=z1*z1+z2*z2/\z1*z1+z2*z2<=(4611686018427387904:Int)))/\True/\True/\True/\True/\True/\True/\A (z5<=g.o+z0/\g.o+z0<=z6)/\True/\True/\True/\True/\A (g.n+(1:Nat)<=(9223372036854775807:Nat)/\(g.n+(1:Nat))*(48:Nat)<=(140737488355328:Nat))/\True/\True/\True/\(True/\True)/\(True/\A z3/\A (g.o+z0=g.o+lenPt g.p g.q))/\(True/\True)/\(A (g.n+(1:Nat)=g.n+(1:Nat))/\∀ i:Nat,let z4:=(if i<g.n then g.f i else g.sd); i<g.n+(1:Nat)->(((((True/\A z3/\A ((bif decide (i<g.n) then (g.f i).p.x else g.p.x)=z4.p.x))/\A z3/\A ((bif decide (i<g.n) then (g.f i).p.y else g.p.y)=z4.p.y))/\A z3/\A ((bif decide (i<g.n) then (g.f i).q.x else g.q.x)=z4.q.x))/\A z3/\A ((bif decide (i<g.n) then (g.f i).q.y else g.q.y)=z4.q.y))/\A z3/\A ((bif decide (i<g.n) then (g.f i).o else g.o)=z4.o))/\A z3/\A ((bif decide (i<g.n) then (g.f i).size else z0)=z4.size))/\True) (by kernel_rfl) ?_
 simp only [ask_iff,br_iff,eq_self,true_and,and_true,implies_true,forall_const,decide_eq_true_eq,decide_eq_false_iff_not,ne_eq,Nat.mul_one,Nat.add_zero,Nat.zero_add]
 have hl:=len_in hg.1.1 hg.1.2
 obtain ⟨⟨⟨⟨a1,a2⟩,a3,a4⟩,⟨b1,b2⟩,b3,b4⟩,⟨o1,o2⟩,hn⟩:=hg
 have s1:=sq_in (a:=g.q.x-g.p.x) (M:=65534) ⟨by omega,by omega⟩
 have s2:=sq_in (a:=g.q.y-g.p.y) (M:=65534) ⟨by omega,by omega⟩
 have el:(isq ((g.q.x-g.p.x)*(g.q.x-g.p.x)+(g.q.y-g.p.y)*(g.q.y-g.p.y)).toNat:Int)=lenPt g.p g.q:=rfl
 rw [el]
 refine ⟨by omega,by omega,by omega,by omega,by omega,by omega,by omega,by omega,rfl,fun i hi=>?_⟩
 by_cases h:i<g.n
 ·rw [decide_eq_true h,if_pos h]
  exact ⟨⟨⟨⟨⟨rfl,rfl⟩,rfl⟩,rfl⟩,rfl⟩,rfl⟩
 ·rw [decide_eq_false h,if_neg h]
  exact ⟨⟨⟨⟨⟨rfl,rfl⟩,rfl⟩,rfl⟩,rfl⟩,rfl⟩
theorem nr_in {x b M:Int}(h : -M<=x/\x<=M) (hb:1<=b) : -M-1<=nr x b/\nr x b<=M+1:=by
 have s:=nr_spec x b hb
 have hM:0<=M:=by omega
 have hMb:M*1<=M*b:=Int.mul_le_mul_of_nonneg_left hb hM
 constructor
 ·rcases Int.lt_or_le (nr x b) (-M-1) with hc | hc
  ·have:=Int.mul_le_mul_of_nonneg_right (show nr x b<= -M-2 by omega) (show (0:Int)<=b by omega)
   have e:(-M-2)*b = -(M*b)-2*b:=by rw [Int.sub_mul,Int.neg_mul]
   omega
  ·exact hc
 ·rcases Int.lt_or_le (M+1) (nr x b) with hc | hc
  ·have:=Int.mul_le_mul_of_nonneg_right (show M+2<=nr x b by omega) (show (0:Int)<=b by omega)
   have e:(M+2)*b=M*b+2*b:=by rw [Int.add_mul]
   omega
  ·exact hc
theorem len_small {p q:Pt}(hp:small 500 p) (hq:small 500 q):0<=lenPt p q/\lenPt p q<=1414:=by
 obtain ⟨⟨a1,a2⟩,a3,a4⟩:=hp
 obtain ⟨⟨b1,b2⟩,b3,b4⟩:=hq
 have s1:=sq_in (a:=q.x-p.x) (M:=1000) ⟨by omega,by omega⟩
 have s2:=sq_in (a:=q.y-p.y) (M:=1000) ⟨by omega,by omega⟩
 unfold lenPt
 generalize hz:((q.x-p.x)*(q.x-p.x)+(q.y-p.y)*(q.y-p.y)).toNat=z
 have hz':z<=2000000:=by omega
 have s:=(isq_spec z).1
 rcases Nat.lt_or_ge 1414 (isq z) with hc | hc
 ·have:=Nat.mul_le_mul (show 1415<=isq z from hc) (show 1415<=isq z from hc)
  omega
 ·omega
structure PoG where
 s:Sd
 t:Int
def PoG.ok (g:PoG):Prop:=(small 32767 g.s.p/\small 32767 g.s.q)/\(0<=g.s.o/\g.s.o<=1099511627776)/\(0<=g.t/\g.t<=1099511627776)/\1<=g.s.size/\g.s.size<=1099511627776
def ptAt (s:Sd) (t:Int):Pt:=⟨s.p.x+nr ((s.q.x-s.p.x)*(t-s.o)) s.size,s.p.y+nr ((s.q.y-s.p.y)*(t-s.o)) s.size⟩
def spPoint:FSpec:=mkSpec 26 (γ:=PoG) (fun | [.agg _ s,.int _ t]=>some ⟨sdD s,t⟩ | _=>none) (fun g=>[.agg 6 (lst (sdL g.s)),.int .i64 g.t]) PoG.ok (fun g=>ptS (ptAt g.s g.t))
theorem ok_point:SpecOK Tryz.prog spPoint:=by
 refine spec_sound (specs:=[spNear]) (all_ok (⟨ok_near,trivial⟩)) (eqs:=[]) (fun _ _ h=>(List.not_mem_nil h).elim) Aff.mixed Tryz.func26 rfl (by kernel_rfl) (fun _ _=>by kernel_rfl) (fun g=>A0) (fun g=>Nat.le_of_ble_eq_true (by kernel_rfl)) ?_
 rintro g hg
 refine vc_of (B:=let A:=Sx.Ask;let z6:=(4611686018427387904:Int);let z5:=(IntKind.i64=IntKind.i64);let z7:=(A z5/\A (g.s.size=g.s.size));let z4:=(g.s.q.y-g.s.p.y);let z3:=(g.s.q.x-g.s.p.x);let z2:=(9223372036854775807:Int);let z1:=(-9223372036854775808:Int);let z0:=(g.t-g.s.o);True/\True/\True/\True/\True/\A (z1<=g.t-g.s.o/\g.t-g.s.o<=z2)/\True/\True/\True/\True/\True/\True/\True/\True/\True/\True/\A (z1<=g.s.q.x-g.s.p.x/\g.s.q.x-g.s.p.x<=z2)/\True/\A (z1<=z3*z0/\z3*z0<=z2)/\True/\True/\(((A z5/\A (z3*z0=z3*z0))/\z7/\True)/\A (((-4611686018427387904:Int)<=z3*z0/\z3*z0<=z6)/\(1:Int)<=g.s.size/\g.s.size<=z6))/\A (z1<=g.s.p.x+nr (z3*z0) g.s.size/\g.s.p.x+nr (z3*z0) g.s.size<=z2)/\True/\True/\True/\True/\True/\True/\True/\True/\True/\A (z1<=g.s.q.y-g.s.p.y/\g.s.q.y-g.s.p.y<=z2)/\True/\A (z1<=z4*z0/\z4*z0<=z2)/\True/\True/\(((A z5/\A (z4*z0=z4*z0))/\z7/\True)/\A (((-4611686018427387904:Int)<=z4*z0/\z4*z0<=z6)/\(1:Int)<=g.s.size/\g.s.size<=z6))/\A (z1<=g.s.p.y+nr (z4*z0) g.s.size/\g.s.p.y+nr (z4*z0) g.s.size<=z2)/\True/\True/\(True/\True)/\(True/\A z5/\A (g.s.p.x+nr (z3*z0) g.s.size=g.s.p.x+nr (z3*z0) g.s.size))/\A z5/\A (g.s.p.y+nr (z4*z0) g.s.size=g.s.p.y+nr (z4*z0) g.s.size)) (by kernel_rfl) ?_
 simp only [ask_iff,br_iff,eq_self,true_and,and_true,implies_true,forall_const,decide_eq_true_eq,decide_eq_false_iff_not,ne_eq,Nat.mul_one,Nat.add_zero,Nat.zero_add]
 obtain ⟨⟨⟨⟨a1,a2⟩,a3,a4⟩,⟨b1,b2⟩,b3,b4⟩,⟨o1,o2⟩,⟨t1,t2⟩,z1,z2⟩:=hg
 have m1:=mul_in (a:=g.s.q.x-g.s.p.x) (x:=g.t-g.s.o) (A:=65534) (X:=1099511627776) ⟨by omega,by omega⟩ ⟨by omega,by omega⟩
 have m2:=mul_in (a:=g.s.q.y-g.s.p.y) (x:=g.t-g.s.o) (A:=65534) (X:=1099511627776) ⟨by omega,by omega⟩ ⟨by omega,by omega⟩
 have n1:=nr_in m1 z1
 have n2:=nr_in m2 z1
 refine ⟨by omega,by omega,by omega,⟨by omega,by omega,by omega⟩,by omega,by omega,by omega,⟨by omega,by omega,by omega⟩,by omega⟩
structure Li where
 n:Nat
 f:Nat->Pt
 c:Bool
def liL (l:Li):List SV:=[.sl l.n 2 (fun i=>lst (ptL (l.f i))),.bool l.c]
def liS (l:Li):SV:= .agg 2 (lst (liL l))
def pxD:SV->Nat->Pt
 | .sl _ _ f=>fun i=>ptD (f i)
 | _=>fun _=>⟨0,0⟩
def liD (g:Nat->SV):Li:=⟨slLen (g 0),pxD (g 0),boolOf (g 1)⟩
def Li.to (l:Li) (i:Nat):Pt:=if i+1<l.n then l.f (i+1) else l.f 0
def Li.m (l:Li):Nat:=if l.n<=1 then 0 else if l.c then l.n else l.n-1
def Li.o (l:Li):Nat->Int
 | 0=>0
 | i+1=>Li.o l i+lenPt (l.f i) (l.to i)
def Li.sd (l:Li) (i:Nat):Sd:=⟨l.f i,l.to i,Li.o l i,lenPt (l.f i) (l.to i)⟩
def Li.ok (l:Li):Prop:=l.n<=9/\∀ i,i<l.n->small 500 (l.f i)
theorem Li.to_ok {l:Li}(h:l.ok) {i:Nat}(hi:i<l.n):small 500 (l.to i):=by
 unfold Li.to
 split
 ·rename_i hj; exact h.2 _ hj
 ·exact h.2 _ (by omega)
theorem Li.o_ok {l:Li}(h:l.ok):∀ i,i<=l.n->0<=Li.o l i/\Li.o l i<=i*1414
 | 0,_=>⟨Int.le_refl _,by show (0:Int)<=_; omega⟩
 | i+1,hi=>by
  have ih:=Li.o_ok h i (by omega)
  have:=len_small (h.2 i (by omega)) (Li.to_ok h (show i<l.n by omega))
  show 0<=Li.o l i+lenPt (l.f i) (l.to i)/\Li.o l i+lenPt (l.f i) (l.to i)<=_
  omega
theorem small_up {p:Pt}(h:small 500 p):small 32767 p:=by
 obtain ⟨⟨a1,a2⟩,a3,a4⟩:=h
 exact ⟨⟨by omega,by omega⟩,by omega,by omega⟩
def siInv (l:Li):Inv:=⟨Int,fun i=>1<=i/\(i<=l.n\/i=1),fun i=>⟨[(1,.own 0 0),(4,.own 1 0),(5,.own 2 0),(6,.fn 23 2 (lst [.own 2 0,.own 1 0])),(7,.int .i64 l.n),(8,.int .i64 i)],
 [.cells 2 (lst (liL l)) 31,.cells 1 (lst [.osl 3 0]) 43,.cells 1 (lst [.int .i64 (Li.o l (i-1).toNat)]) 3,.row 0 (i-1).toNat 6 (fun j=>lst (sdL (l.sd j))) 65]⟩,fun i=>(l.n-i).toNat⟩
def sidesS (l:Li):SV:= .sl l.m 6 (fun j=>lst (sdL (l.sd j)))
def spSides:FSpec:=mkSpec 11 (γ:=Li) (fun | [.agg _ g]=>some (liD g) | _=>none) (fun l=>[liS l]) Li.ok (fun l=> .tup 2 (lst [sidesS l,.int .i64 (Li.o l l.m)]))
theorem ok_sides:SpecOK Tryz.prog spSides:=by
 refine spec_sound (specs:=[spAdd]) (all_ok (⟨ok_add,trivial⟩)) (eqs:=[]) (fun _ _ h=>(List.not_mem_nil h).elim) Aff.mixed Tryz.func11 rfl (by kernel_rfl) (fun _ _=>by kernel_rfl) (fun g=>(⟨[(6,.inv (siInv g))],[(5,[.ownC 1 0 65 6])]⟩:Ann)) (fun g=>Nat.le_of_ble_eq_true (by kernel_rfl)) ?_
 rintro l hl
 refine vc_of (B:=let A:=Sx.Ask;let z19:=(0:Int);let z17:=(9223372036854775807:Int);let z16:=(-9223372036854775808:Int);let z13:=(1:Int);let z11:=(↑l.n:Int);let z9:=(l.f (Int.toNat z19));let z7:=(l.f (z11-z13).toNat);let z6:=((0:Nat)=(0:Nat));let z2:=(IntKind.i64=IntKind.i64);let z8:=((True/\A (l.n=l.n)/\∀ i:Nat,i<l.n->(True/\A z2/\A ((l.f i).x=(l.f i).x))/\A z2/\A ((l.f i).y=(l.f i).y))/\A (l.c=l.c));True/\True/\True/\True/\True/\True/\True/\True/\True/\True/\True/\True/\True/\(∃ g:Int,A ((siInv l).pre g)/\(A z6/\A z6/\A z6/\(A ((23:Nat)=(23:Go.FuncId))/\(True/\A z6)/\A z6)/\(A z2/\A (z11=z11))/\(A z2/\A (z13=g))/\True)/\z8/\(True/\True)/\(True/\A z2/\A (z19=l.o (g-z13).toNat))/\(A ((0:Nat)=(g-z13).toNat)/\∀ i:Nat,i<(g-z13).toNat->(((((True/\False)/\False)/\False)/\False)/\False)/\False)/\True)/\∀ g:Int,let z18:=(l.f g.toNat);let z5:=(g-z13);let z15:=(l.f z5.toNat);let z14:=(True/\A z2/\A (l.o z5.toNat=l.o z5.toNat));let z12:=(AdG.mk z7 z9 (l.o z5.toNat) z5.toNat fun (i:Nat)=>Sd.mk (l.f i) (l.to i) (l.o i) (lenPt (l.f i) (l.to i)));let z10:=(AdG.mk z15 z18 (l.o z5.toNat) z5.toNat fun (i:Nat)=>Sd.mk (l.f i) (l.to i) (l.o i) (lenPt (l.f i) (l.to i)));let z4:=(True/\A (z5.toNat=l.m)/\∀ i:Nat,i<l.m->(((((True/\A z2/\A ((l.f i).x=(l.f i).x))/\A z2/\A ((l.f i).y=(l.f i).y))/\A z2/\A ((l.to i).x=(l.to i).x))/\A z2/\A ((l.to i).y=(l.to i).y))/\A z2/\A (l.o i=l.o i))/\A z2/\A (lenPt (l.f i) (l.to i)=lenPt (l.f i) (l.to i)));let z3:=(A (z5.toNat=z5.toNat)/\∀ i:Nat,i<z5.toNat->(((((True/\A z2/\A ((l.f i).x=(l.f i).x))/\A z2/\A ((l.f i).y=(l.f i).y))/\A z2/\A ((l.to i).x=(l.to i).x))/\A z2/\A ((l.to i).y=(l.to i).y))/\A z2/\A (l.o i=l.o i))/\A z2/\A (lenPt (l.f i) (l.to i)=lenPt (l.f i) (l.to i))); (siInv l).pre g->True/\True/\True/\Sx.Br (decide (g<z11)) (True/\True/\True/\True/\A (z16<=g-z13/\g-z13<=z17)/\A (z19<=g-z13/\g-z13<z11)/\True/\True/\True/\True/\A (z19<=g/\g<z11)/\True/\((True/\(((True/\A z2/\A (z15.x=z15.x))/\A z2/\A (z15.y=z15.y))/\((True/\A z2/\A (z18.x=z18.x))/\A z2/\A (z18.y=z18.y))/\A z6/\A z6/\True)/\z14/\(True/\True)/\z3/\True)/\A z10.ok)/\True/\A (z16<=g+z13/\g+z13<=z17)/\True/\∃ (g':Int),A ((siInv l).pre g')/\((A z6/\A z6/\A z6/\(A ((23:Go.FuncId)=(23:Go.FuncId))/\(True/\A z6)/\A z6)/\(A z2/\A (z11=z11))/\(A z2/\A (g+z13=g'))/\True)/\z8/\(True/\True)/\(True/\A z2/\A (l.o z5.toNat+lenPt z15 z18=l.o (g'-z13).toNat))/\(A (z5.toNat+(1:Nat)=(g'-z13).toNat)/\∀ i:Nat,let z1:=(if i<z5.toNat then Sd.mk (l.f i) (l.to i) (l.o i) (lenPt (l.f i) (l.to i)) else z10.sd); i<(g'-z13).toNat->(((((True/\A z2/\A (z1.p.x=(l.f i).x))/\A z2/\A (z1.p.y=(l.f i).y))/\A z2/\A (z1.q.x=(l.to i).x))/\A z2/\A (z1.q.y=(l.to i).y))/\A z2/\A (z1.o=l.o i))/\A z2/\A (z1.size=lenPt (l.f i) (l.to i)))/\True)/\A ((siInv l).meas g'<(siInv l).meas g)) (True/\True/\True/\Sx.Br l.c (True/\True/\True/\Sx.Br (decide (z13<z11)) (True/\True/\True/\True/\A (z16<=z11-z13/\z11-z13<=z17)/\A (z19<=z11-z13/\z11-z13<z11)/\True/\True/\True/\A (z19<=z19/\z19<z11)/\True/\((True/\(((True/\A z2/\A (z7.x=z7.x))/\A z2/\A (z7.y=z7.y))/\((True/\A z2/\A (z9.x=z9.x))/\A z2/\A (z9.y=z9.y))/\A z6/\A z6/\True)/\z14/\(True/\True)/\z3/\True)/\A z12.ok)/\True/\True/\True/\True/\True/\(True/\A (z5.toNat+(1:Nat)=l.m)/\∀ i:Nat,let z0:=(if i<z5.toNat then Sd.mk (l.f i) (l.to i) (l.o i) (lenPt (l.f i) (l.to i)) else z12.sd); i<l.m->(((((True/\A z2/\A (z0.p.x=(l.f i).x))/\A z2/\A (z0.p.y=(l.f i).y))/\A z2/\A (z0.q.x=(l.to i).x))/\A z2/\A (z0.q.y=(l.to i).y))/\A z2/\A (z0.o=l.o i))/\A z2/\A (z0.size=lenPt (l.f i) (l.to i)))/\A z2/\A (l.o z5.toNat+lenPt z7 z9=l.o l.m)) (True/\True/\True/\True/\True/\z4/\A z2/\A (l.o z5.toNat=l.o l.m))) (True/\True/\True/\True/\True/\True/\z4/\A z2/\A (l.o z5.toNat=l.o l.m)))) (by kernel_rfl) ?_
 simp only [ask_iff,br_iff,eq_self,true_and,and_true,implies_true,forall_const,decide_eq_true_eq,decide_eq_false_iff_not,ne_eq,Nat.mul_one,Nat.add_zero,Nat.zero_add]
 refine ⟨⟨1,⟨by omega,Or.inr rfl⟩,rfl,rfl,rfl,fun i hi=>absurd hi (Nat.not_lt_zero i)⟩,?_⟩
 rintro g hg
 have hg:1<=g/\(g<=l.n\/g=1):=hg
 obtain ⟨k,rfl⟩:∃ k:Nat,g=k+1:=⟨(g-1).toNat,by omega⟩
 have e1:((k:Int)+1-1).toNat=k:=by omega
 have e2:((k:Int)+1).toNat=k+1:=by omega
 have e3:((k:Int)+1+1-1).toNat=k+1:=by omega
 rw [e1,e2]
 have hn:=hl.1
 refine ⟨fun h=>?_,fun h=>?_⟩
 ·have hk:k+1<l.n:=by omega
  have et:l.to k=l.f (k+1):=if_pos hk
  have ho:=Li.o_ok hl k (by omega)
  have hln:=len_small (hl.2 k (by omega)) (hl.2 (k+1) hk)
  refine ⟨by omega,by omega,by omega,⟨⟨small_up (hl.2 k (by omega)),small_up (hl.2 _ hk)⟩,⟨ho.1,by show Li.o l k<=_; omega⟩,by show k<=_; omega⟩,by omega,⟨k+1+1,⟨by omega,Or.inl (by omega)⟩,⟨rfl,?_,?_,?_⟩,?_⟩⟩
  ·rw [e3]; show _=Li.o l k+lenPt (l.f k) (l.to k); rw [et]
  ·rw [e3]
  ·rw [e3]; intro i hi
   by_cases hik:i<k
   ·rw [if_pos hik]; exact ⟨⟨⟨⟨⟨rfl,rfl⟩,rfl⟩,rfl⟩,rfl⟩,rfl⟩
   ·obtain rfl:i=k:=by omega
    rw [if_neg hik,et]; exact ⟨⟨⟨⟨⟨rfl,rfl⟩,rfl⟩,rfl⟩,rfl⟩,rfl⟩
  ·show (l.n-(k+1+1:Int)).toNat<(l.n-(k+1:Int)).toNat
   omega
 ·refine ⟨fun hc=>⟨fun h1=>?_,fun h1=>?_⟩,fun hc=>?_⟩
  ·have hk:k+1=l.n:=by omega
   have em:l.m=k+1:=by unfold Li.m; rw [if_neg (by omega),if_pos hc]; exact hk.symm
   have et:l.to k=l.f 0:=if_neg (by omega)
   have e4:((l.n:Int)-1).toNat=k:=by omega
   have ho:=Li.o_ok hl k (by omega)
   have hln:=len_small (hl.2 k (by omega)) (hl.2 0 (by omega))
   rw [e4,em]
   refine ⟨by omega,by omega,by omega,⟨⟨small_up (hl.2 k (by omega)),small_up (hl.2 0 (by omega))⟩,⟨ho.1,by show Li.o l k<=_; omega⟩,by show k<=_; omega⟩,⟨rfl,?_⟩,?_⟩
   ·intro i hi
    by_cases hik:i<k
    ·rw [if_pos hik]; exact ⟨⟨⟨⟨⟨rfl,rfl⟩,rfl⟩,rfl⟩,rfl⟩,rfl⟩
    ·obtain rfl:i=k:=by omega
     rw [if_neg hik,et]; exact ⟨⟨⟨⟨⟨rfl,rfl⟩,rfl⟩,rfl⟩,rfl⟩,rfl⟩
   ·show _=Li.o l k+lenPt (l.f k) (l.to k); rw [et]; rfl
  ·have em:k=l.m:=by unfold Li.m; rw [if_pos (by omega)]; omega
   exact ⟨em,by rw [<-em]⟩
  ·have em:k=l.m:=by
    unfold Li.m
    by_cases h1:l.n<=1
    ·rw [if_pos h1]; omega
    ·rw [if_neg h1,if_neg (by rw [hc]; exact Bool.false_ne_true)]; omega
   exact ⟨em,by rw [<-em]⟩
end Go.Proofs.YtmhofgchidojoaaGreat.Dsh
set_option linter.unusedSimpArgs false
set_option linter.unusedVariables false
namespace Go.Proofs.YtmhofgchidojoaaGreat.Sta
open Go.RowKit Sx Num Aff Con Fla Ptr
set_option maxRecDepth 100000
def addP (a b:Pt):Pt:=⟨a.x+b.x,a.y+b.y⟩
def subP (a b:Pt):Pt:=⟨a.x-b.x,a.y-b.y⟩
def mulP (k:Int) (a:Pt):Pt:=⟨k*a.x,k*a.y⟩
def dotP (a b:Pt):Int:=a.x*b.x+a.y*b.y
def crP (a b:Pt):Int:=a.x*b.y-a.y*b.x
def spVec:FSpec:=mkSpec 67 (γ:=Pt) (fun | [.int _ x,.int _ y]=>some ⟨x,y⟩ | _=>none) (fun p=>[.int .i64 p.x,.int .i64 p.y]) (fun _=>True) (fun p=>ptS p)
theorem ok_vec:SpecOK Tryz.prog spVec:=by
 refine spec_sound (specs:=[]) (all_ok trivial) (eqs:=[]) (fun _ _ h=>(List.not_mem_nil h).elim) Aff.mixed Tryz.func67 rfl (by kernel_rfl) (fun _ _=>by kernel_rfl) (fun g=>A0) (fun g=>Nat.le_of_ble_eq_true (by kernel_rfl)) ?_
 rintro p hp
 refine vc_of (B:=let K:=IntKind.i64;let A:=Sx.Ask;True/\True/\True/\True/\True/\True/\(True/\True)/\(True/\A (K=K)/\A (p.x=p.x))/\A (K=K)/\A (p.y=p.y)) (by kernel_rfl) ?_
 simp only [ask_iff,br_iff,eq_self,true_and,and_true,implies_true,forall_const,decide_eq_true_eq,decide_eq_false_iff_not,ne_eq,Nat.mul_one,Nat.add_zero,Nat.zero_add,Int.toNat_natCast,and_self,false_and,and_false]
def spPlus:FSpec:=mkSpec 48 (γ:=Pt×Pt) (fun | [.agg _ a,.agg _ b]=>some (ptD a,ptD b) | _=>none) (fun g=>[ptS g.1,ptS g.2]) (fun g=>small 1073741824 g.1/\small 1073741824 g.2) (fun g=>ptS (addP g.1 g.2))
theorem ok_plus:SpecOK Tryz.prog spPlus:=by
 refine spec_sound (specs:=[spVec]) (all_ok (⟨ok_vec,trivial⟩)) (eqs:=[]) (fun _ _ h=>(List.not_mem_nil h).elim) Aff.mixed Tryz.func48 rfl (by kernel_rfl) (fun _ _=>by kernel_rfl) (fun g=>A0) (fun g=>Nat.le_of_ble_eq_true (by kernel_rfl)) ?_
 rintro ⟨⟨ax,ay⟩,⟨bx,by_⟩⟩ ⟨⟨⟨a1,a2⟩,a3,a4⟩,⟨b1,b2⟩,b3,b4⟩
 simp only at a1 a2 a3 a4 b1 b2 b3 b4
 refine vc_of (B:=let A:=Sx.Ask;let z0:=(IntKind.i64=IntKind.i64);True/\True/\True/\True/\True/\True/\True/\True/\True/\A ((-9223372036854775808:Int)<=ax+bx/\ax+bx<=(9223372036854775807:Int))/\True/\True/\True/\True/\True/\True/\A ((-9223372036854775808:Int)<=ay+by_/\ay+by_<=(9223372036854775807:Int))/\(((A z0/\A (ax+bx=ax+bx))/\(A z0/\A (ay+by_=ay+by_))/\True)/\A True)/\True/\(True/\True)/\(True/\A z0/\A (ax+bx=ax+bx))/\A z0/\A (ay+by_=ay+by_)) (by kernel_rfl) ?_
 simp only [ask_iff,br_iff,eq_self,true_and,and_true,implies_true,forall_const,decide_eq_true_eq,decide_eq_false_iff_not,ne_eq,Nat.mul_one,Nat.add_zero,Nat.zero_add,Int.toNat_natCast,and_self,false_and,and_false]
 omega
def spMinus:FSpec:=mkSpec 49 (γ:=Pt×Pt) (fun | [.agg _ a,.agg _ b]=>some (ptD a,ptD b) | _=>none) (fun g=>[ptS g.1,ptS g.2]) (fun g=>small 1073741824 g.1/\small 1073741824 g.2) (fun g=>ptS (subP g.1 g.2))
theorem ok_minus:SpecOK Tryz.prog spMinus:=by
 refine spec_sound (specs:=[spVec]) (all_ok (⟨ok_vec,trivial⟩)) (eqs:=[]) (fun _ _ h=>(List.not_mem_nil h).elim) Aff.mixed Tryz.func49 rfl (by kernel_rfl) (fun _ _=>by kernel_rfl) (fun g=>A0) (fun g=>Nat.le_of_ble_eq_true (by kernel_rfl)) ?_
 rintro ⟨⟨ax,ay⟩,⟨bx,by_⟩⟩ ⟨⟨⟨a1,a2⟩,a3,a4⟩,⟨b1,b2⟩,b3,b4⟩
 simp only at a1 a2 a3 a4 b1 b2 b3 b4
 refine vc_of (B:=let A:=Sx.Ask;let z0:=(IntKind.i64=IntKind.i64);True/\True/\True/\True/\True/\True/\True/\True/\True/\A ((-9223372036854775808:Int)<=ax-bx/\ax-bx<=(9223372036854775807:Int))/\True/\True/\True/\True/\True/\True/\A ((-9223372036854775808:Int)<=ay-by_/\ay-by_<=(9223372036854775807:Int))/\(((A z0/\A (ax-bx=ax-bx))/\(A z0/\A (ay-by_=ay-by_))/\True)/\A True)/\True/\(True/\True)/\(True/\A z0/\A (ax-bx=ax-bx))/\A z0/\A (ay-by_=ay-by_)) (by kernel_rfl) ?_
 simp only [ask_iff,br_iff,eq_self,true_and,and_true,implies_true,forall_const,decide_eq_true_eq,decide_eq_false_iff_not,ne_eq,Nat.mul_one,Nat.add_zero,Nat.zero_add,Int.toNat_natCast,and_self,false_and,and_false]
 omega
def spTimes:FSpec:=mkSpec 71 (γ:=Pt×Int) (fun | [.agg _ a,.int _ k]=>some (ptD a,k) | _=>none) (fun g=>[ptS g.1,.int .i64 g.2]) (fun g=>small 1073741824 g.1/\ -1<=g.2/\g.2<=1) (fun g=>ptS (mulP g.2 g.1))
theorem ok_times:SpecOK Tryz.prog spTimes:=by
 refine spec_sound (specs:=[spVec]) (all_ok (⟨ok_vec,trivial⟩)) (eqs:=[]) (fun _ _ h=>(List.not_mem_nil h).elim) Aff.mixed Tryz.func71 rfl (by kernel_rfl) (fun _ _=>by kernel_rfl) (fun g=>A0) (fun g=>Nat.le_of_ble_eq_true (by kernel_rfl)) ?_
 rintro ⟨⟨ax,ay⟩,k⟩ ⟨⟨⟨a1,a2⟩,a3,a4⟩,k1,k2⟩
 simp only at a1 a2 a3 a4 k1 k2
 refine vc_of (B:=let A:=Sx.Ask;let z0:=(IntKind.i64=IntKind.i64);True/\True/\True/\True/\True/\True/\A ((-9223372036854775808:Int)<=k*ax/\k*ax<=(9223372036854775807:Int))/\True/\True/\True/\True/\A ((-9223372036854775808:Int)<=k*ay/\k*ay<=(9223372036854775807:Int))/\(((A z0/\A (k*ax=k*ax))/\(A z0/\A (k*ay=k*ay))/\True)/\A True)/\True/\(True/\True)/\(True/\A z0/\A (k*ax=k*ax))/\A z0/\A (k*ay=k*ay)) (by kernel_rfl) ?_
 simp only [ask_iff,br_iff,eq_self,true_and,and_true,implies_true,forall_const,decide_eq_true_eq,decide_eq_false_iff_not,ne_eq,Nat.mul_one,Nat.add_zero,Nat.zero_add,Int.toNat_natCast,and_self,false_and,and_false]
 have h1:=Fla.mul_in (a:=k) (x:=ax) (A:=1) (X:=1073741824) ⟨k1,k2⟩ ⟨a1,a2⟩
 have h2:=Fla.mul_in (a:=k) (x:=ay) (A:=1) (X:=1073741824) ⟨k1,k2⟩ ⟨a3,a4⟩
 omega
def spDot:FSpec:=mkSpec 68 (γ:=Pt×Pt) (fun | [.agg _ a,.agg _ b]=>some (ptD a,ptD b) | _=>none) (fun g=>[ptS g.1,ptS g.2]) (fun g=>small 65536 g.1/\small 65536 g.2) (fun g=> .int .i64 (dotP g.1 g.2))
theorem ok_dot:SpecOK Tryz.prog spDot:=by
 refine spec_sound (specs:=[]) (all_ok trivial) (eqs:=[]) (fun _ _ h=>(List.not_mem_nil h).elim) Aff.mixed Tryz.func68 rfl (by kernel_rfl) (fun _ _=>by kernel_rfl) (fun g=>A0) (fun g=>Nat.le_of_ble_eq_true (by kernel_rfl)) ?_
 rintro ⟨⟨ax,ay⟩,⟨bx,by_⟩⟩ ⟨⟨⟨a1,a2⟩,a3,a4⟩,⟨b1,b2⟩,b3,b4⟩
 simp only at a1 a2 a3 a4 b1 b2 b3 b4
 refine vc_of (B:=let A:=Sx.Ask;let z1:=(9223372036854775807:Int);let z0:=(-9223372036854775808:Int);True/\True/\True/\True/\True/\True/\True/\True/\True/\A (z0<=ax*bx/\ax*bx<=z1)/\True/\True/\True/\True/\True/\True/\A (z0<=ay*by_/\ay*by_<=z1)/\A (z0<=ax*bx+ay*by_/\ax*bx+ay*by_<=z1)/\True/\True/\A (IntKind.i64=IntKind.i64)/\A (ax*bx+ay*by_=dotP (Con.Pt.mk ax ay) (Con.Pt.mk bx by_))) (by kernel_rfl) ?_
 simp only [ask_iff,br_iff,eq_self,true_and,and_true,implies_true,forall_const,decide_eq_true_eq,decide_eq_false_iff_not,ne_eq,Nat.mul_one,Nat.add_zero,Nat.zero_add,Int.toNat_natCast,and_self,false_and,and_false]
 have h1:=Fla.mul_in (a:=ax) (x:=bx) (A:=65536) (X:=65536) ⟨a1,a2⟩ ⟨b1,b2⟩
 have h2:=Fla.mul_in (a:=ay) (x:=by_) (A:=65536) (X:=65536) ⟨a3,a4⟩ ⟨b3,b4⟩
 exact ⟨by omega,by omega,by omega,rfl⟩
def spCrossV:FSpec:=mkSpec 70 (γ:=Pt×Pt) (fun | [.agg _ a,.agg _ b]=>some (ptD a,ptD b) | _=>none) (fun g=>[ptS g.1,ptS g.2]) (fun g=>small 65536 g.1/\small 65536 g.2) (fun g=> .int .i64 (crP g.1 g.2))
theorem ok_crossV:SpecOK Tryz.prog spCrossV:=by
 refine spec_sound (specs:=[]) (all_ok trivial) (eqs:=[]) (fun _ _ h=>(List.not_mem_nil h).elim) Aff.mixed Tryz.func70 rfl (by kernel_rfl) (fun _ _=>by kernel_rfl) (fun g=>A0) (fun g=>Nat.le_of_ble_eq_true (by kernel_rfl)) ?_
 rintro ⟨⟨ax,ay⟩,⟨bx,by_⟩⟩ ⟨⟨⟨a1,a2⟩,a3,a4⟩,⟨b1,b2⟩,b3,b4⟩
 simp only at a1 a2 a3 a4 b1 b2 b3 b4
 refine vc_of (B:=let A:=Sx.Ask;let z1:=(9223372036854775807:Int);let z0:=(-9223372036854775808:Int);True/\True/\True/\True/\True/\True/\True/\True/\True/\A (z0<=ax*by_/\ax*by_<=z1)/\True/\True/\True/\True/\True/\True/\A (z0<=ay*bx/\ay*bx<=z1)/\A (z0<=ax*by_-ay*bx/\ax*by_-ay*bx<=z1)/\True/\True/\A (IntKind.i64=IntKind.i64)/\A (ax*by_-ay*bx=crP (Con.Pt.mk ax ay) (Con.Pt.mk bx by_))) (by kernel_rfl) ?_
 simp only [ask_iff,br_iff,eq_self,true_and,and_true,implies_true,forall_const,decide_eq_true_eq,decide_eq_false_iff_not,ne_eq,Nat.mul_one,Nat.add_zero,Nat.zero_add,Int.toNat_natCast,and_self,false_and,and_false]
 have h1:=Fla.mul_in (a:=ax) (x:=by_) (A:=65536) (X:=65536) ⟨a1,a2⟩ ⟨b3,b4⟩
 have h2:=Fla.mul_in (a:=ay) (x:=bx) (A:=65536) (X:=65536) ⟨a3,a4⟩ ⟨b1,b2⟩
 exact ⟨by omega,by omega,by omega,rfl⟩
structure Sid where
 p:Pt
 q:Pt
 d:Pt
 n:Pt
 e:Pt
def sidL (s:Sid):List SV:=[.int .i64 s.p.x,.int .i64 s.p.y,.int .i64 s.q.x,.int .i64 s.q.y,.int .i64 s.d.x,.int .i64 s.d.y,.int .i64 s.n.x,.int .i64 s.n.y,.int .i64 s.e.x,.int .i64 s.e.y]
def sidS (s:Sid):SV:= .agg 10 (lst (sidL s))
def sidD (g:Nat->SV):Sid:=⟨⟨Sx.intOf (g 0),Sx.intOf (g 1)⟩,⟨Sx.intOf (g 2),Sx.intOf (g 3)⟩,⟨Sx.intOf (g 4),Sx.intOf (g 5)⟩,⟨Sx.intOf (g 6),Sx.intOf (g 7)⟩,⟨Sx.intOf (g 8),Sx.intOf (g 9)⟩⟩
def lenD (d:Pt):Int:=isq (1048576*dotP d d).toNat
theorem sqn (a:Int):0<=a*a:=by
 rw [<-Int.natAbs_mul_self']
 exact Int.mul_nonneg (Int.natCast_nonneg _) (Int.natCast_nonneg _)
theorem isq_ge {a n:Nat}(h:a*a<=n):a<=isq n:=by
 refine Classical.byContradiction fun hc=>?_
 have h2:=(isq_spec n).2
 have h3:(isq n+1)*(isq n+1)<=a*a:=Nat.mul_le_mul (by omega) (by omega)
 omega
theorem dot_in {d:Pt}(h:small 65536 d):0<=dotP d d/\dotP d d<=8589934592:=by
 obtain ⟨h1,h2⟩:=h
 have s1:=Dsh.sq_in h1
 have s2:=Dsh.sq_in h2
 unfold dotP
 omega
theorem len_ge {d:Pt}{a:Nat}(h:(a:Int)*a<=dotP d d):1024*(a:Int)<=lenD d:=by
 have h0:(0:Int)<=dotP d d:=Int.le_trans (Int.mul_nonneg (Int.natCast_nonneg a) (Int.natCast_nonneg a)) h
 have h1:1024*a*(1024*a)<=(1048576*dotP d d).toNat:=by
  have e:((1024*a*(1024*a):Nat):Int)=1048576*((a:Int)*a):=by push_cast; grind
  omega
 have:=isq_ge h1
 unfold lenD
 omega
theorem len_x (d:Pt) : -lenD d<=1024*d.x/\1024*d.x<=lenD d:=by
 have h:((d.x.natAbs:Nat):Int)*d.x.natAbs<=dotP d d:=by
  rw [Int.natAbs_mul_self']
  have:=sqn d.y
  unfold dotP
  omega
 have:=len_ge h
 omega
theorem len_y (d:Pt) : -lenD d<=1024*d.y/\1024*d.y<=lenD d:=by
 have h:((d.y.natAbs:Nat):Int)*d.y.natAbs<=dotP d d:=by
  rw [Int.natAbs_mul_self']
  have:=sqn d.x
  unfold dotP
  omega
 have:=len_ge h
 omega
theorem len_pos {d:Pt}(h:d.x≠0\/d.y≠0):1<=lenD d:=by
 have:=len_x d
 have:=len_y d
 omega
theorem len_le {d:Pt}(h:small 65536 d):lenD d<=4611686018427387904:=by
 have h1:=Dsh.isq_le (1048576*dotP d d).toNat
 have h2:=dot_in h
 unfold lenD
 omega
def half (w l x:Int):Int:=nr (512*w*x) l
structure HfG where
 x:Int
 w:Int
 l:Int
def spHalf:FSpec:=mkSpec 69 (γ:=HfG) (fun | [.int _ x,.ref _ w,.ref _ l]=>some ⟨x,Sx.intOf (w 0),Sx.intOf (l 0)⟩ | _=>none) (fun g=>[.int .i64 g.x,.ref 1 (lst [.int .i64 g.w]),.ref 1 (lst [.int .i64 g.l])])
 (fun g=>(-65536<=g.x/\g.x<=65536)/\(0<=g.w/\g.w<=1024)/\1<=g.l/\g.l<=4611686018427387904) (fun g=> .int .i64 (half g.w g.l g.x))
theorem ok_half:SpecOK Tryz.prog spHalf:=by
 refine spec_sound (specs:=[spNear]) (all_ok (⟨ok_near,trivial⟩)) (eqs:=[]) (fun _ _ h=>(List.not_mem_nil h).elim) Aff.mixed Tryz.func69 rfl (by kernel_rfl) (fun _ _=>by kernel_rfl) (fun g=>A0) (fun g=>Nat.le_of_ble_eq_true (by kernel_rfl)) ?_
 rintro ⟨x,w,l⟩ ⟨⟨x1,x2⟩,⟨w1,w2⟩,l1,l2⟩
 simp only at x1 x2 w1 w2 l1 l2
 refine vc_of (B:=let A:=Sx.Ask;let z1:=(IntKind.i64=IntKind.i64);let z0:=(512:Int);True/\True/\A ((-9223372036854775808:Int)<=z0*w/\z0*w<=(9223372036854775807:Int))/\True/\A ((-9223372036854775808:Int)<=z0*w*x/\z0*w*x<=(9223372036854775807:Int))/\True/\(((A z1/\A (z0*w*x=z0*w*x))/\(A z1/\A (l=l))/\True)/\A (((-4611686018427387904:Int)<=z0*w*x/\z0*w*x<=(4611686018427387904:Int))/\(1:Int)<=l/\l<=(4611686018427387904:Int)))/\True/\True/\A z1/\A (nr (z0*w*x) l=half w l x)) (by kernel_rfl) ?_
 simp only [ask_iff,br_iff,eq_self,true_and,and_true,implies_true,forall_const,decide_eq_true_eq,decide_eq_false_iff_not,ne_eq,Nat.mul_one,Nat.add_zero,Nat.zero_add,Int.toNat_natCast,and_self,false_and,and_false]
 have h1:=Fla.mul_in (a:=512*w) (x:=x) (A:=524288) (X:=65536) ⟨by omega,by omega⟩ ⟨x1,x2⟩
 exact ⟨by omega,by omega,⟨⟨by omega,by omega⟩,l1,l2⟩,rfl⟩
def mkSid (w:Int) (p q:Pt):Sid:=⟨p,q,subP q p,⟨half w (lenD (subP q p)) (0-(subP q p).y),half w (lenD (subP q p)) (subP q p).x⟩,⟨half w (lenD (subP q p)) (subP q p).x,half w (lenD (subP q p)) (subP q p).y⟩⟩
structure MsG where
 p:Pt
 q:Pt
 w:Int
def MsG.ok (g:MsG):Prop:=(small 32767 g.p/\small 32767 g.q)/\(g.p.x≠g.q.x\/g.p.y≠g.q.y)/\0<=g.w/\g.w<=1024
def spSide:FSpec:=mkSpec 46 (γ:=MsG) (fun | [.agg _ p,.agg _ q,.int _ w]=>some ⟨ptD p,ptD q,w⟩ | _=>none) (fun g=>[ptS g.p,ptS g.q,.int .i64 g.w]) MsG.ok (fun g=>sidS (mkSid g.w g.p g.q))
theorem ok_side:SpecOK Tryz.prog spSide:=by
 refine spec_sound (specs:=[spMinus,spDot,Dsh.spSqrt,spHalf,spVec]) (all_ok (⟨ok_minus,ok_dot,Dsh.ok_sqrt,ok_half,ok_vec,trivial⟩)) (eqs:=[]) (fun _ _ h=>(List.not_mem_nil h).elim) Aff.mixed Tryz.func46 rfl (by kernel_rfl) (fun _ _=>by kernel_rfl) (fun g=>(⟨[],[(4,[.tmp 9])]⟩:Ann)) (fun g=>Nat.le_of_ble_eq_true (by kernel_rfl)) ?_
 rintro ⟨p,q,w⟩ hg
 refine vc_of (B:=let A:=Sx.Ask;let z18:=(65536:Int);let z17:=(q.y-p.y=q.y-p.y);let z16:=(q.x-p.x=q.x-p.x);let z11:=(0:Int);let z14:=(z11<=w/\w<=(1024:Int));let z9:=(4611686018427387904:Int);let z7:=(1048576:Int);let z5:=(q.y-p.y);let z4:=(Int.ofNat (isq (z7*dotP (subP q p) (subP q p)).toNat));let z2:=(Con.Pt.mk (q.x-p.x) z5);let z1:=(IntKind.i64=IntKind.i64);let z13:=(True/\A z1/\A (w=w));let z8:=((True/\A z1/\A (p.x=p.x))/\A z1/\A (p.y=p.y));let z6:=((True/\A z1/\A z16)/\A z1/\A z17);let z0:=(↑(isq (z7*dotP z2 z2).toNat):Int);let z15:=(half w z0 (q.x-p.x)=half w z4 (q.x-p.x));let z12:=(A z1/\A (half w z0 (q.x-p.x)=half w z0 (q.x-p.x)));let z10:=(True/\A z1/\A (z0=z0));let z3:=(((A z1/\A z16)/\z13/\z10/\True)/\A (((-65536:Int)<=q.x-p.x/\q.x-p.x<=z18)/\z14/\(1:Int)<=z0/\z0<=z9));True/\True/\True/\True/\True/\True/\((((True/\A z1/\A (q.x=q.x))/\A z1/\A (q.y=q.y))/\z8/\True)/\A (Fla.small (1073741824:Int) q/\Fla.small (1073741824:Int) p))/\True/\True/\True/\True/\((z6/\z6/\True)/\A (Fla.small z18 z2/\Fla.small z18 z2))/\A ((-9223372036854775808:Int)<=z7*dotP z2 z2/\z7*dotP z2 z2<=(9223372036854775807:Int))/\(((A z1/\A (z7*dotP z2 z2=z7*dotP z2 z2))/\True)/\A (z11<=z7*dotP z2 z2/\z7*dotP z2 z2<=z9))/\True/\True/\True/\True/\True/\True/\True/\True/\True/\True/\True/\A ((-9223372036854775808:Int)<=z11-z5/\z11-z5<=(9223372036854775807:Int))/\(((A z1/\A (z11-z5=z11-z5))/\z13/\z10/\True)/\A (((-65536:Int)<=z11-z5/\z11-z5<=z18)/\z14/\(1:Int)<=z0/\z0<=z9))/\True/\True/\True/\True/\z3/\(((A z1/\A (half w z0 (z11-z5)=half w z0 (z11-z5)))/\z12/\True)/\A True)/\True/\True/\True/\True/\z3/\True/\True/\True/\True/\(((A z1/\A z17)/\z13/\z10/\True)/\A (((-65536:Int)<=q.y-p.y/\q.y-p.y<=z18)/\z14/\(1:Int)<=z0/\z0<=z9))/\((z12/\(A z1/\A (half w z0 z5=half w z0 z5))/\True)/\A True)/\True/\True/\(True/\True)/\(((((((z8/\A z1/\A (q.x=q.x))/\A z1/\A (q.y=q.y))/\A z1/\A z16)/\A z1/\A z17)/\A z1/\A (half w z0 (z11-z5)=half w z4 (z11-z5)))/\A z1/\A z15)/\A z1/\A z15)/\A z1/\A (half w z0 z5=half w z4 z5)) (by kernel_rfl) ?_
 simp only [ask_iff,br_iff,eq_self,true_and,and_true,implies_true,forall_const,decide_eq_true_eq,decide_eq_false_iff_not,ne_eq,Nat.mul_one,Nat.add_zero,Nat.zero_add,Int.toNat_natCast,and_self,false_and,and_false]
 obtain ⟨⟨hp,hq⟩,hne,hw⟩:=hg
 simp only at hp hq hne hw
 have hd:small 65536 ⟨q.x-p.x,q.y-p.y⟩:=by
  obtain ⟨⟨a1,a2⟩,a3,a4⟩:=hp
  obtain ⟨⟨b1,b2⟩,b3,b4⟩:=hq
  exact ⟨⟨by show -65536<=q.x-p.x; omega,by show q.x-p.x<=65536; omega⟩,by show -65536<=q.y-p.y; omega,by show q.y-p.y<=65536; omega⟩
 have wide:∀ {a:Pt},small 32767 a->small 1073741824 a:=fun ⟨⟨a1,a2⟩,a3,a4⟩=>⟨⟨by omega,by omega⟩,by omega,by omega⟩
 have hdot:=dot_in hd
 have l1:=len_pos (d:=⟨q.x-p.x,q.y-p.y⟩) (by show q.x-p.x≠0\/q.y-p.y≠0; omega)
 have l2:=len_le hd
 unfold lenD at l1 l2
 obtain ⟨⟨d1,d2⟩,d3,d4⟩:=id hd
 simp only at d1 d2 d3 d4
 exact ⟨⟨wide hq,wide hp⟩,hd,by omega,by omega,by omega,⟨by omega,hw,l1,l2⟩,⟨by omega,hw,l1,l2⟩,⟨by omega,hw,l1,l2⟩,⟨by omega,hw,l1,l2⟩,⟨⟨rfl,rfl⟩,rfl⟩,rfl⟩
def gP (L:List Pt) (i:Nat):Pt:=L.getD i ⟨0,0⟩
def lastP (L:List Pt):Pt:=gP L (L.length-1)
def eqPt (a b:Pt):Prop:=a.x=b.x/\a.y=b.y
instance (a b:Pt):Decidable (eqPt a b):=by unfold eqPt; infer_instance
def dd (f:Nat->Pt):Nat->List Pt
 | 0=>[]
 | k+1=>if (dd f k).length=0\/¬ eqPt (lastP (dd f k)) (f k) then dd f k++[f k] else dd f k
def trm:Nat->List Pt->List Pt
 | 0,L=>L
 | n+1,L=>if 1<L.length/\eqPt (gP L 0) (lastP L) then trm n L.dropLast else L
def clean (l:Li):List Pt:=if l.c=true then trm (dd l.f l.n).length (dd l.f l.n) else dd l.f l.n
theorem dd_len (f:Nat->Pt):∀ k,(dd f k).length<=k
 | 0=>Nat.le_refl _
 | k+1=>by
  have:=dd_len f k
  show (if _ then dd f k++[f k] else dd f k).length<=k+1
  split
  ·rw [List.length_append]; show _+1<=_; omega
  ·omega
theorem gP_app (L:List Pt) (r:Pt) {i:Nat}(h:i<L.length+1):gP (L++[r]) i=if i<L.length then gP L i else r:=by
 unfold gP
 by_cases hi:i<L.length
 ·rw [if_pos hi,List.getD_eq_getElem?_getD,List.getElem?_append_left hi,List.getD_eq_getElem?_getD]
 ·rw [if_neg hi,show i=L.length by omega]
  simp
theorem gP_drop (L:List Pt) {i:Nat}(h:i<L.length-1):gP L.dropLast i=gP L i:=by
 unfold gP
 rw [List.getD_eq_getElem?_getD,List.getD_eq_getElem?_getD,List.getElem?_dropLast,if_pos h]
theorem appV {L M:List Pt}{r:Pt}(hM:M=L++[r]):∀ i,i<M.length->(bif decide (i<L.length) then (gP L i).x else r.x)=(gP M i).x/\(bif decide (i<L.length) then (gP L i).y else r.y)=(gP M i).y:=fun i hi=>by
 subst hM
 rw [gP_app L r (by simpa using hi)]
 by_cases h:i<L.length
 ·rw [decide_eq_true h,if_pos h]; exact ⟨rfl,rfl⟩
 ·rw [decide_eq_false h,if_neg h]; exact ⟨rfl,rfl⟩
abbrev eqV:List (TypeId×List CK):=[(95,[.int,.int])]
theorem eqV_ok:AllEq Tryz.prog eqV:=⟨eqOK_of (m:=2) (by kernel_rfl) (by kernel_rfl) rfl (by decide) (by kernel_rfl),trivial⟩
def vecS (L:List Pt):SV:= .sl L.length 2 (fun i=>lst (ptL (gP L i)))
def vRow (L:List Pt):SO:= .row 0 L.length 2 (fun i=>lst (ptL (gP L i))) 95
def liS (l:Li):SV:= .agg 2 (lst (liL l))
def cnA (l:Li):Inv:=⟨Nat,fun k=>k<=l.n,fun k=>⟨[(1,.own 0 0),(3,.osl 1 0),(8,.sl l.n 2 (fun i=>lst (ptL (l.f i)))),(9,.int .i64 l.n),(10,.int .i64 k)],[.cells 2 (lst (liL l)) 31,vRow (dd l.f k)]⟩,fun k=>l.n-k⟩
structure TrG where
 L:List Pt
 n:Nat
def cnB (l:Li):Inv:=⟨TrG,fun g=>g.L.length<=l.n/\g.L.length<=g.n/\(l.c=true->trm g.n g.L=clean l)/\(l.c=false->g.L=clean l),fun g=>⟨[(1,.own 0 0),(3,.osl 1 0)],[.cells 2 (lst (liL l)) 31,vRow g.L]⟩,fun g=>g.n⟩
def spClean:FSpec:=mkSpec 44 (γ:=Li) (fun | [.agg _ g]=>some (liD g) | _=>none) (fun l=>[liS l]) (fun l=>l.n<=1048576) (fun l=>vecS (clean l))
theorem ok_clean:SpecOK Tryz.prog spClean:=by
 refine spec_sound (specs:=[]) (all_ok trivial) (eqs:=eqV) (all_eq eqV_ok) Aff.mixed Tryz.func44 rfl (by kernel_rfl) (fun _ _=>by kernel_rfl) (fun g=>(⟨[(3,.inv (cnA g)),(9,.inv (cnB g))],[(2,[.own 3 95 2]),(1000010,[.shrink 3])]⟩:Ann)) (fun g=>Nat.le_of_ble_eq_true (by kernel_rfl)) ?_
 rintro l hl
 refine vc_of (B:=let U:=Int.ofNat;let J:=Int.toNat;let K:=Sx.Br;let A:=Sx.Ask;let z17:=(9223372036854775807:Int);let z16:=(-9223372036854775808:Int);let z14:=(clean l);let z13:=(0:Int);let z10:=((0:Nat)=(0:Nat));let z7:=(1:Int);let z1:=(IntKind.i64=IntKind.i64);let z6:=(A z1/\A ((↑l.n:Int)=(↑l.n:Int)));let z2:=(A (l.n=l.n)/\∀ i:Nat,i<l.n->(True/\A z1/\A ((l.f i).x=(l.f i).x))/\A z1/\A ((l.f i).y=(l.f i).y));let z0:=((True/\A (l.n=l.n)/\∀ i:Nat,i<l.n->(True/\A z1/\A ((l.f i).x=(l.f i).x))/\A z1/\A ((l.f i).y=(l.f i).y))/\A (l.c=l.c));True/\True/\True/\True/\True/\True/\True/\(∃ g:Nat,A ((cnA l).pre g)/\(A z10/\True/\z2/\z6/\(A z1/\A (z13=(↑g:Int)))/\True)/\z0/\(A ((0:Nat)=(dd l.f g).length)/\∀ i:Nat,i<(dd l.f g).length->(True/\False)/\False)/\True)/\∀ g:Nat,let z15:=(↑g:Int);let z11:=(l.f z15.toNat);let z5:=(dd l.f g);let z9:=(↑z5.length:Int);let z8:=(z5.length+(1:Nat)<=(9223372036854775807:Nat)/\(z5.length+(1:Nat))*(16:Nat)<=(140737488355328:Nat));let z4:=(z16<=z15+z7/\z15+z7<=z17); (cnA l).pre g->True/\K (decide (z15<(↑l.n:Int))) (A (z13<=z15/\z15<(↑l.n:Int))/\True/\True/\True/\True/\True/\True/\True/\True/\True/\True/\True/\K (decide (z9=z13)) (True/\True/\True/\True/\A z8/\True/\A z4/\True/\∃ (g':Nat),A ((cnA l).pre g')/\((A z10/\True/\z2/\z6/\(A z1/\A (z15+z7=(↑g':Int)))/\True)/\z0/\(A (z5.length+(1:Nat)=(dd l.f g').length)/\∀ i:Nat,i<(dd l.f g').length->(True/\A z1/\A ((bif decide (i<z5.length) then (gP z5 i).x else z11.x)=(gP (dd l.f g') i).x))/\A z1/\A ((bif decide (i<z5.length) then (gP z5 i).y else z11.y)=(gP (dd l.f g') i).y))/\True)/\A ((cnA l).meas g'<(cnA l).meas g)) (True/\True/\True/\A (z16<=z9-z7/\z9-z7<=z17)/\A (z13<=z9-z7/\z9-z7<z9)/\A ((z9-z7).toNat<z5.length)/\True/\True/\True/\K (!(decide ((gP z5 (z9-z7).toNat).x=z11.x)&&(decide ((gP z5 (z9-z7).toNat).y=z11.y)&&true))) (True/\True/\True/\A z8/\True/\A z4/\True/\∃ (g':Nat),A ((cnA l).pre g')/\((A z10/\True/\z2/\z6/\(A z1/\A (z15+z7=(↑g':Int)))/\True)/\z0/\(A (z5.length+(1:Nat)=(dd l.f g').length)/\∀ i:Nat,i<(dd l.f g').length->(True/\A z1/\A ((bif decide (i<z5.length) then (gP z5 i).x else z11.x)=(gP (dd l.f g') i).x))/\A z1/\A ((bif decide (i<z5.length) then (gP z5 i).y else z11.y)=(gP (dd l.f g') i).y))/\True)/\A ((cnA l).meas g'<(cnA l).meas g)) (A z4/\True/\∃ (g':Nat),A ((cnA l).pre g')/\((A z10/\True/\z2/\z6/\(A z1/\A (z15+z7=(↑g':Int)))/\True)/\z0/\(A (z5.length=(dd l.f g').length)/\∀ i:Nat,i<(dd l.f g').length->(True/\A z1/\A ((gP z5 i).x=(gP (dd l.f g') i).x))/\A z1/\A ((gP z5 i).y=(gP (dd l.f g') i).y))/\True)/\A ((cnA l).meas g'<(cnA l).meas g)))) ((∃ g_1:TrG,A ((cnB l).pre g_1)/\(A z10/\True/\True)/\z0/\(A (z5.length=g_1.L.length)/\∀ i:Nat,i<g_1.L.length->(True/\A z1/\A ((gP z5 i).x=(gP g_1.L i).x))/\A z1/\A ((gP z5 i).y=(gP g_1.L i).y))/\True)/\∀ g:TrG,let z18:=(g.L.length=z14.length);let z3:=(↑g.L.length:Int);let z12:=(z16<=z3-z7/\z3-z7<=z17); (cnB l).pre g->True/\True/\True/\K l.c (True/\True/\True/\True/\True/\K (decide (z7<z3)) (True/\A (z13<=z13/\z13<z3)/\A (J z13<g.L.length)/\True/\True/\True/\A z12/\A (z13<=z3-z7/\z3-z7<z3)/\A ((z3-z7).toNat<g.L.length)/\True/\True/\K (decide ((gP g.L (J z13)).x=(gP g.L (z3-z7).toNat).x)&&(decide ((gP g.L (J z13)).y=(gP g.L (z3-z7).toNat).y)&&true)) (True/\True/\True/\A z12/\A (z13<=U (0:Nat)/\U (0:Nat)<=z3-z7/\z3-z7<=U g.L.length/\U g.L.length<=z3)/\True/\∃ (g':TrG),A ((cnB l).pre g')/\((A z10/\True/\True)/\z0/\(A ((z3-z7-U (0:Nat)).toNat=g'.L.length)/\∀ i:Nat,i<g'.L.length->(True/\A z1/\A ((gP g.L i).x=(gP g'.L i).x))/\A z1/\A ((gP g.L i).y=(gP g'.L i).y))/\True)/\A ((cnB l).meas g'<(cnB l).meas g)) (True/\True/\True/\A z18/\∀ i:Nat,i<z14.length->(True/\A z1/\A ((gP g.L i).x=(gP z14 i).x))/\A z1/\A ((gP g.L i).y=(gP z14 i).y))) (True/\True/\True/\True/\A z18/\∀ i:Nat,i<z14.length->(True/\A z1/\A ((gP g.L i).x=(gP z14 i).x))/\A z1/\A ((gP g.L i).y=(gP z14 i).y))) (True/\True/\True/\True/\True/\True/\A z18/\∀ i:Nat,i<z14.length->(True/\A z1/\A ((gP g.L i).x=(gP z14 i).x))/\A z1/\A ((gP g.L i).y=(gP z14 i).y)))) (by kernel_rfl) ?_
 simp only [ask_iff,br_iff,eq_self,true_and,and_true,implies_true,forall_const,decide_eq_true_eq,decide_eq_false_iff_not,ne_eq,Nat.mul_one,Nat.add_zero,Nat.zero_add,Int.toNat_natCast,and_self,false_and,and_false]
 have hl:l.n<=1048576:=hl
 refine ⟨⟨0,Nat.zero_le _,rfl,rfl,fun i hi=>absurd hi (Nat.not_lt_zero _)⟩,fun k hk=>⟨fun hlt=>?_,fun hge=>?_⟩⟩
 ·have hk:k<=l.n:=hk
  have hlen:=dd_len l.f k
  have hpre:(cnA l).pre (k+1):=by show k+1<=l.n; omega
  have hmeas:(cnA l).meas (k+1)<(cnA l).meas k:=by show l.n-(k+1)<l.n-k; omega
  have ez:(((dd l.f k).length:Int)-1).toNat=(dd l.f k).length-1:=by omega
  rw [ez]
  refine ⟨by omega,fun hz=>?_,fun hz=>⟨by omega,by omega,by omega,fun hne=>?_,fun heq=>?_⟩⟩
  ·have hM:dd l.f (k+1)=dd l.f k++[l.f k]:=if_pos (.inl (by omega))
   exact ⟨by omega,by omega,k+1,hpre,⟨rfl,by rw [hM]; simp,appV hM⟩,hmeas⟩
  ·have hM:dd l.f (k+1)=dd l.f k++[l.f k]:=if_pos (.inr fun hc=>by
    have h1:(gP (dd l.f k) ((dd l.f k).length-1)).x=(l.f k).x:=hc.1
    have h2:(gP (dd l.f k) ((dd l.f k).length-1)).y=(l.f k).y:=hc.2
    simp [h1,h2] at hne)
   exact ⟨by omega,by omega,k+1,hpre,⟨rfl,by rw [hM]; simp,appV hM⟩,hmeas⟩
  ·have hM:dd l.f (k+1)=dd l.f k:=if_neg fun hc=>by
    rcases hc with hc | hc
    ·omega
    ·simp only [Bool.and_true,Bool.not_eq_false',Bool.and_eq_true,decide_eq_true_eq] at heq
     exact hc heq
   exact ⟨by omega,k+1,hpre,⟨rfl,by rw [hM],fun i _=>by rw [hM]; exact ⟨rfl,rfl⟩⟩,hmeas⟩
 ·have hk:k<=l.n:=hk
  obtain rfl:k=l.n:=by omega
  have hlen:=dd_len l.f l.n
  refine ⟨⟨⟨dd l.f l.n,(dd l.f l.n).length⟩,⟨hlen,Nat.le_refl _,fun h=>(if_pos h).symm,fun h=>(if_neg (by rw [h]; decide)).symm⟩,rfl,fun i _=>⟨rfl,rfl⟩⟩,fun g hg=>?_⟩
  obtain ⟨L,n⟩:=g
  obtain ⟨b1,b2,b3,b4⟩:L.length<=l.n/\L.length<=n/\(l.c=true->trm n L=clean l)/\(l.c=false->L=clean l):=hg
  simp only [Int.ofNat_eq_natCast]
  have same:L=clean l->L.length=(clean l).length/\∀ i,i<(clean l).length->(gP L i).x=(gP (clean l) i).x/\(gP L i).y=(gP (clean l) i).y:=fun e=>by rw [e]; exact ⟨rfl,fun _ _=>⟨rfl,rfl⟩⟩
  refine ⟨fun hc=>⟨fun h1=>?_,fun h1=>same ?_⟩,fun hc=>same (b4 hc)⟩
  ·have ez:((L.length:Int)-1).toNat=L.length-1:=by omega
   have ez2:((L.length:Int)-1-((0:Nat):Int)).toNat=L.length-1:=by omega
   rw [ez,ez2]
   obtain ⟨n,rfl⟩:∃ m,n=m+1:=⟨n-1,by omega⟩
   have b3:=b3 hc
   have e3:trm (n+1) L=if 1<L.length/\eqPt (gP L 0) (lastP L) then trm n L.dropLast else L:=rfl
   have hl1:1<L.length:=by omega
   have hdl:L.dropLast.length=L.length-1:=List.length_dropLast
   refine ⟨by omega,by show 0<L.length; omega,by omega,by omega,by omega,fun he=>⟨by omega,by omega,⟨L.dropLast,n⟩,⟨?_,?_,fun _=>?_,fun h=>by rw [hc] at h; cases h⟩,⟨hdl.symm,fun i hi=>?_⟩,Nat.lt_succ_self n⟩,fun he=>same ?_⟩
   ·show L.dropLast.length<=l.n
    omega
   ·show L.dropLast.length<=n
    omega
   ·simp only [Bool.and_true,Bool.and_eq_true,decide_eq_true_eq] at he
    rw [e3,if_pos ⟨hl1,he⟩] at b3
    exact b3
   ·have hi:i<L.dropLast.length:=hi
    show (gP L i).x=(gP L.dropLast i).x/\(gP L i).y=(gP L.dropLast i).y
    rw [gP_drop L (by omega)]
    exact ⟨rfl,rfl⟩
   ·rw [e3,if_neg fun hcc=>?_] at b3
    ·exact b3
    ·have h1:(gP L 0).x=(gP L (L.length-1)).x:=hcc.2.1
     have h2:(gP L 0).y=(gP L (L.length-1)).y:=hcc.2.2
     simp [h1,h2] at he
  ·have b3:=b3 hc
   rw [<-b3]
   have h1:¬ 1<L.length:=by
    have h1:¬ (1:Int)<(L.length:Int):=h1
    omega
   cases n with
   | zero=>rfl
   | succ n=>exact (if_neg fun hcc=>h1 hcc.1).symm
end Go.Proofs.YtmhofgchidojoaaGreat.Sta
set_option linter.unusedSimpArgs false
set_option linter.unusedVariables false
namespace Go.Proofs.YtmhofgchidojoaaGreat.Flb
open Go.RowKit Sx Num Aff Con Fla
set_option maxRecDepth 100000
def spNaN:FSpec:=mkSpec 73 (γ:=Int) (fun | [.int _ x]=>some x | _=>none) (fun x=>[.int .i64 x]) (fun _=>True) (fun _=> .lit false)
theorem ok_nan:SpecOK Tryz.prog spNaN:=by
 refine spec_sound (specs:=[]) (all_ok trivial) (eqs:=[]) (fun _ _ h=>(List.not_mem_nil h).elim) Aff.mixed Tryz.func73 rfl (by kernel_rfl) (fun _ _=>by kernel_rfl) (fun g=>A0) (fun g=>Nat.le_of_ble_eq_true (by kernel_rfl)) ?_
 rintro x hx
 refine vc_of (B:=True/\True/\True/\True/\True/\True/\Sx.Ask (decide (x≠x)=false)) (by kernel_rfl) ?_
 simp only [ask_iff,br_iff,eq_self,true_and,and_true,implies_true,forall_const,decide_eq_true_eq,decide_eq_false_iff_not,ne_eq,Nat.mul_one,Nat.add_zero,Nat.zero_add,Int.toNat_natCast,and_self,List.append_assoc,false_and,and_false]
 simp
def cmpI (x y:Int):Int:=if x<y then -1 else if y<x then 1 else 0
def spCmp:FSpec:=mkSpec 56 (γ:=Int×Int) (fun | [.int _ x,.int _ y]=>some (x,y) | _=>none) (fun g=>[.int .i64 g.1,.int .i64 g.2]) (fun _=>True) (fun g=> .int .i64 (cmpI g.1 g.2))
theorem ok_cmp:SpecOK Tryz.prog spCmp:=by
 refine spec_sound (specs:=[spNaN]) (all_ok (⟨ok_nan,trivial⟩)) (eqs:=[]) (fun _ _ h=>(List.not_mem_nil h).elim) Aff.mixed Tryz.func56 rfl (by kernel_rfl) (fun _ _=>by kernel_rfl) (fun g=>A0) (fun g=>Nat.le_of_ble_eq_true (by kernel_rfl)) ?_
 rintro ⟨x,y⟩ hx
 refine vc_of (B:=let A:=Sx.Ask;let z0:=(IntKind.i64=IntKind.i64);True/\True/\(((A z0/\A (x=x))/\True)/\A True)/\True/\True/\(((A z0/\A (y=y))/\True)/\A True)/\True/\True/\True/\True/\True/\True/\Sx.Br (decide (x<y)) (True/\True/\A z0/\A ((-1:Int)=cmpI x y)) (True/\True/\True/\Sx.Br (decide (y<x)) (True/\True/\A z0/\A ((1:Int)=cmpI x y)) (True/\True/\A z0/\A ((0:Int)=cmpI x y)))) (by kernel_rfl) ?_
 simp only [ask_iff,br_iff,eq_self,true_and,and_true,implies_true,forall_const,decide_eq_true_eq,decide_eq_false_iff_not,ne_eq,Nat.mul_one,Nat.add_zero,Nat.zero_add,Int.toNat_natCast,and_self,List.append_assoc,false_and,and_false]
 refine ⟨fun h=>?_,fun h=>⟨fun h2=>?_,fun h2=>?_⟩⟩
 ·show _=cmpI x y
  unfold cmpI; rw [if_pos h]
 ·show _=cmpI x y
  unfold cmpI; rw [if_neg h,if_pos h2]
 ·show _=cmpI x y
  unfold cmpI; rw [if_neg h,if_neg h2]
def spCmpE:FSpec:=mkSpec 55 (γ:=Ed×Ed) (fun | [.agg _ x,.agg _ y]=>some (edD x,edD y) | _=>none) (fun g=>[edS g.1,edS g.2]) (fun _=>True) (fun g=> .int .i64 (cmpI g.1.y g.2.y))
theorem ok_cmpE:SpecOK Tryz.prog spCmpE:=by
 refine spec_sound (specs:=[spCmp]) (all_ok (⟨ok_cmp,trivial⟩)) (eqs:=[]) (fun _ _ h=>(List.not_mem_nil h).elim) Aff.mixed Tryz.func55 rfl (by kernel_rfl) (fun _ _=>by kernel_rfl) (fun g=>A0) (fun g=>Nat.le_of_ble_eq_true (by kernel_rfl)) ?_
 rintro ⟨x,y⟩ hx
 refine vc_of (B:=let A:=Sx.Ask;let z0:=(IntKind.i64=IntKind.i64);True/\True/\True/\True/\True/\True/\True/\(((A z0/\A (x.y=x.y))/\(A z0/\A (y.y=y.y))/\True)/\A True)/\True/\True/\A z0/\A (cmpI x.y y.y=cmpI x.y y.y)) (by kernel_rfl) ?_
 simp only [ask_iff,br_iff,eq_self,true_and,and_true,implies_true,forall_const,decide_eq_true_eq,decide_eq_false_iff_not,ne_eq,Nat.mul_one,Nat.add_zero,Nat.zero_add,Int.toNat_natCast,and_self,List.append_assoc,false_and,and_false]
theorem cmp_neg {x y:Int}:cmpI x y<0<->x<y:=by
 unfold cmpI
 split<;>(try split)<;>omega
theorem upd1 {p:Prop} [Decidable p] {r e f:Ed}(h:f=if p then r else e):((((((bif decide p then r.x else e.x)=f.x/\(bif decide p then r.y else e.y)=f.y)/\(bif decide p then r.en else e.en)=f.en)/\(bif decide p then r.dx else e.dx)=f.dx)/\(bif decide p then r.dy else e.dy)=f.dy)/\(bif decide p then r.s else e.s)=f.s):=by
 rw [h]
 by_cases hp:p
 ·simp [hp]
 ·simp [hp]
theorem upd1v {p0 p1 p2 p3 p4 p5:Prop} [Decidable p0] [Decidable p1] [Decidable p2] [Decidable p3] [Decidable p4] [Decidable p5] {r e f:Ed}{p:Prop} [Decidable p]
  (h:f=if p then r else e) (hp:(p0<->p)/\(p1<->p)/\(p2<->p)/\(p3<->p)/\(p4<->p)/\(p5<->p)) :
  ((((((bif decide p0 then r.x else e.x)=f.x/\(bif decide p1 then r.y else e.y)=f.y)/\(bif decide p2 then r.en else e.en)=f.en)/\
  (bif decide p3 then r.dx else e.dx)=f.dx)/\(bif decide p4 then r.dy else e.dy)=f.dy)/\(bif decide p5 then r.s else e.s)=f.s):=by
 obtain ⟨a0,a1,a2,a3,a4,a5⟩:=hp
 rw [h]
 simp only [a0,a1,a2,a3,a4,a5]
 by_cases hp:p
 ·simp [hp]
 ·simp [hp]
theorem upd2 {p0 p1 p2 p3 p4 p5 q0 q1 q2 q3 q4 q5:Prop} [Decidable p0] [Decidable p1] [Decidable p2] [Decidable p3] [Decidable p4] [Decidable p5] [Decidable q0] [Decidable q1] [Decidable q2] [Decidable q3] [Decidable q4] [Decidable q5] {r t e f:Ed}{p q:Prop} [Decidable p] [Decidable q]
  (h:f=if p then r else if q then t else e) (hp:(p0<->p)/\(p1<->p)/\(p2<->p)/\(p3<->p)/\(p4<->p)/\(p5<->p)) (hq:(q0<->q)/\(q1<->q)/\(q2<->q)/\(q3<->q)/\(q4<->q)/\(q5<->q)) :
  ((((((bif decide p0 then r.x else bif decide q0 then t.x else e.x)=f.x/\(bif decide p1 then r.y else bif decide q1 then t.y else e.y)=f.y)/\(bif decide p2 then r.en else bif decide q2 then t.en else e.en)=f.en)/\
  (bif decide p3 then r.dx else bif decide q3 then t.dx else e.dx)=f.dx)/\(bif decide p4 then r.dy else bif decide q4 then t.dy else e.dy)=f.dy)/\(bif decide p5 then r.s else bif decide q5 then t.s else e.s)=f.s):=by
 obtain ⟨a0,a1,a2,a3,a4,a5⟩:=hp
 obtain ⟨b0,b1,b2,b3,b4,b5⟩:=hq
 rw [h]
 simp only [a0,a1,a2,a3,a4,a5,b0,b1,b2,b3,b4,b5]
 by_cases hp:p
 ·simp [hp]
 ·by_cases hq:q
  ·simp [hp,hq]
  ·simp [hp,hq]
def swp (f:Nat->Ed) (j:Nat) (k:Nat):Ed:=if k=j then f (j-1) else if k=j-1 then f j else f k
def bub (a:Nat) (f:Nat->Ed):Nat->Nat->Ed
 | 0=>f
 | j+1=>if a<j+1/\(f (j+1)).y<(f j).y then bub a (swp f (j+1)) j else f
def insF (a:Nat) (f:Nat->Ed):Nat->Nat->Ed
 | 0=>f
 | k+1=>bub a (insF a f k) (a+k+1)
structure InG where
 n:Nat
 f:Nat->Ed
 a:Nat
 b:Nat
def inD:List SV->List SO->Option InG
 | [_,.int _ a,.int _ b,_],[.row _ n _ g _]=>some ⟨n,fun i=>edD (g i),a.toNat,b.toNat⟩
 | _,_=>none
def cmpS:SV:= .fn 55 0 (lst [])
def insOut (g:InG):Inv:=⟨Nat,fun i=>g.a+1<=i/\(i<=g.b\/i=g.a+1),fun i=>⟨[(0,.osl 0 0),(1,.int .i64 g.a),(2,.int .i64 g.b),(3,cmpS),(8,.int .i64 i)],[edRow 0 g.n (insF g.a g.f (i-g.a-1))]⟩,fun i=>g.b-i⟩
def insIn (g:InG) (i:Nat):Inv:=⟨(Nat->Ed)×Nat,fun h=>g.a<=h.2/\h.2<=i/\bub g.a h.1 h.2=insF g.a g.f (i-g.a),fun h=>⟨[(0,.osl 0 0),(1,.int .i64 g.a),(2,.int .i64 g.b),(3,cmpS),(8,.int .i64 i),(9,.int .i64 h.2)],[edRow 0 g.n h.1]⟩,fun h=>h.2⟩
def spIns:FSpec:=mkSpecM 86 [.arg 0] inD (fun g=>[.osl 0 0,.int .i64 g.a,.int .i64 g.b,cmpS]) (fun g=>[edRow 0 g.n g.f]) (fun g=>(g.a<=g.b/\g.b<=g.n)/\g.n<=4294967296) (fun _=> .tup 0 (lst [])) (fun g=>[edRow 0 g.n (insF g.a g.f (g.b-g.a-1))])
theorem ok_ins:SpecOK Tryz.prog spIns:=by
 refine spec_soundM (specs:=[spCmpE]) (all_ok (⟨ok_cmpE,trivial⟩)) (eqs:=[]) (fun _ _ h=>(List.not_mem_nil h).elim) Aff.mixed Tryz.func86 rfl (by kernel_rfl) (fun _ _=>by kernel_rfl) (fun g=>(⟨[(1,.nest (insOut g) (fun i=>[(4,.inv (insIn g i))]))],[]⟩:Ann)) true (fun g=>Nat.le_of_ble_eq_true (by kernel_rfl)) ?_
 rintro g hg
 refine vc_of (B:=let A:=Sx.Ask;let z29:=(g.n=g.n);let z27:=(1:Nat);let z26:=(↑g.a:Int);let z25:=(insOut g);let z24:=(9223372036854775807:Int);let z23:=(-9223372036854775808:Int);let z21:=(6:Nat);let z14:=(0:Nat);let z13:=(1:Int);let z6:=(A ((55:Go.FuncId)=(55:Go.FuncId))/\True);let z0:=(IntKind.i64=IntKind.i64);let z8:=(A z0/\A ((↑g.b:Int)=(↑g.b:Int)));let z7:=(A z0/\A (z26=z26));True/\A (z23<=z26+z13/\z26+z13<=z24)/\True/\(∃ g_1:Nat,A (z25.pre g_1)/\True/\(True/\z7/\z8/\z6/\(A z0/\A (z26+z13=(↑g_1:Int)))/\True)/\(A z29/\∀ i:Nat,let z9:=(insF g.a g.f (g_1-g.a-z27) i); i<g.n->(((((True/\A z0/\A ((g.f i).x=z9.x))/\A z0/\A ((g.f i).y=z9.y))/\A z0/\A ((g.f i).en=z9.en))/\A z0/\A ((g.f i).dx=z9.dx))/\A z0/\A ((g.f i).dy=z9.dy))/\A z0/\A ((g.f i).s=z9.s))/\True)/\∀ g_1:Nat,let z28:=(insIn g g_1);let z19:=(↑g_1:Int);let z15:=(z23<=z19+z13/\z19+z13<=z24);let z5:=(g_1-g.a-z27); z25.pre g_1->True/\True/\True/\Sx.Br (decide (z19<(↑g.b:Int))) (True/\True/\(∃ (g_2:(Nat->Fla.Ed)×Nat),A (z28.pre g_2)/\True/\(True/\z7/\z8/\z6/\(A z0/\A (z19=z19))/\(A z0/\A (z19=(↑g_2.snd:Int)))/\True)/\(A z29/\∀ i:Nat,let z30:=(g_2.fst i);let z17:=(insF g.a g.f z5 i); i<g.n->(((((True/\A z0/\A (z17.x=z30.x))/\A z0/\A (z17.y=z30.y))/\A z0/\A (z17.en=z30.en))/\A z0/\A (z17.dx=z30.dx))/\A z0/\A (z17.dy=z30.dy))/\A z0/\A (z17.s=z30.s))/\True)/\∀ (g_2:(Nat->Fla.Ed)×Nat),let z1:=(↑g_2.snd:Int);let z22:=(z1-z13);let z20:=((0:Int)<=z1/\z1<(↑g.n:Int));let z16:=((0:Int)<=z1-z13/\z1-z13<(↑g.n:Int));let z4:=(g_2.fst z1.toNat);let z3:=(z23<=z1-z13/\z1-z13<=z24);let z2:=(g_2.fst z22.toNat); z28.pre g_2->True/\True/\True/\True/\Sx.Br (decide (z26<z1)) (True/\True/\True/\A z20/\A (z1.toNat<g.n)/\True/\True/\A z3/\A z16/\A (z22.toNat<g.n)/\((((((((True/\A z0/\A (z4.x=z4.x))/\A z0/\A (z4.y=z4.y))/\A z0/\A (z4.en=z4.en))/\A z0/\A (z4.dx=z4.dx))/\A z0/\A (z4.dy=z4.dy))/\A z0/\A (z4.s=z4.s))/\((((((True/\A z0/\A (z2.x=z2.x))/\A z0/\A (z2.y=z2.y))/\A z0/\A (z2.en=z2.en))/\A z0/\A (z2.dx=z2.dx))/\A z0/\A (z2.dy=z2.dy))/\A z0/\A (z2.s=z2.s))/\True)/\A True)/\True/\True/\Sx.Br (decide (cmpI z4.y z2.y<(0:Int))) (True/\True/\True/\True/\A z3/\True/\True/\A z3/\A z16/\A (z22.toNat<g.n)/\True/\True/\A z20/\A (z1.toNat<g.n)/\A z20/\A (z1.toNat<g.n)/\A z16/\A (z22.toNat<g.n)/\True/\A z3/\True/\∃ (g':(Nat->Fla.Ed)×Nat),A (z28.pre g')/\True/\((True/\z7/\z8/\z6/\(A z0/\A (z19=z19))/\(A z0/\A (z1-z13=(↑g'.snd:Int)))/\True)/\(A z29/\∀ i:Nat,let z31:=(g_2.fst i); i<g.n->(((((True/\A z0/\A ((bif decide (i=z22.toNat/\z14<=z14/\z14<z14+z21) then z4.x else bif decide (i=z1.toNat/\z14<=z14/\z14<z14+z21) then z2.x else z31.x)=(g'.fst i).x))/\A z0/\A ((bif decide (i=z22.toNat/\z14<=z27/\z27<z14+z21) then z4.y else bif decide (i=z1.toNat/\z14<=z27/\z27<z14+z21) then z2.y else z31.y)=(g'.fst i).y))/\A z0/\A ((bif decide (i=z22.toNat/\z14<=(2:Nat)/\(2:Nat)<z14+z21) then z4.en else bif decide (i=z1.toNat/\z14<=(2:Nat)/\(2:Nat)<z14+z21) then z2.en else z31.en)=(g'.fst i).en))/\A z0/\A ((bif decide (i=z22.toNat/\z14<=(3:Nat)/\(3:Nat)<z14+z21) then z4.dx else bif decide (i=z1.toNat/\z14<=(3:Nat)/\(3:Nat)<z14+z21) then z2.dx else z31.dx)=(g'.fst i).dx))/\A z0/\A ((bif decide (i=z22.toNat/\z14<=(4:Nat)/\(4:Nat)<z14+z21) then z4.dy else bif decide (i=z1.toNat/\z14<=(4:Nat)/\(4:Nat)<z14+z21) then z2.dy else z31.dy)=(g'.fst i).dy))/\A z0/\A ((bif decide (i=z22.toNat/\z14<=(5:Nat)/\(5:Nat)<z14+z21) then z4.s else bif decide (i=z1.toNat/\z14<=(5:Nat)/\(5:Nat)<z14+z21) then z2.s else z31.s)=(g'.fst i).s))/\True)/\A (z28.meas g'<z28.meas g_2)) (True/\A z15/\True/\∃ (g':Nat),A (z25.pre g')/\True/\((True/\z7/\z8/\z6/\(A z0/\A (z19+z13=(↑g':Int)))/\True)/\(A z29/\∀ i:Nat,let z32:=(g_2.fst i);let z11:=(insF g.a g.f (g'-g.a-z27) i); i<g.n->(((((True/\A z0/\A (z32.x=z11.x))/\A z0/\A (z32.y=z11.y))/\A z0/\A (z32.en=z11.en))/\A z0/\A (z32.dx=z11.dx))/\A z0/\A (z32.dy=z11.dy))/\A z0/\A (z32.s=z11.s))/\True)/\A (z25.meas g'<z25.meas g_1))) (True/\True/\A z15/\True/\∃ (g':Nat),A (z25.pre g')/\True/\((True/\z7/\z8/\z6/\(A z0/\A (z19+z13=(↑g':Int)))/\True)/\(A z29/\∀ i:Nat,let z33:=(g_2.fst i);let z12:=(insF g.a g.f (g'-g.a-z27) i); i<g.n->(((((True/\A z0/\A (z33.x=z12.x))/\A z0/\A (z33.y=z12.y))/\A z0/\A (z33.en=z12.en))/\A z0/\A (z33.dx=z12.dx))/\A z0/\A (z33.dy=z12.dy))/\A z0/\A (z33.s=z12.s))/\True)/\A (z25.meas g'<z25.meas g_1))) (True/\True/\(True/\True)/\(A z29/\∀ i:Nat,let z18:=(insF g.a g.f z5 i);let z10:=(insF g.a g.f (g.b-g.a-z27) i); i<g.n->(((((True/\A z0/\A (z18.x=z10.x))/\A z0/\A (z18.y=z10.y))/\A z0/\A (z18.en=z10.en))/\A z0/\A (z18.dx=z10.dx))/\A z0/\A (z18.dy=z10.dy))/\A z0/\A (z18.s=z10.s))/\True)) (by kernel_rfl) ?_
 simp only [ask_iff,br_iff,eq_self,true_and,and_true,implies_true,forall_const,decide_eq_true_eq,decide_eq_false_iff_not,ne_eq,Nat.mul_one,Nat.add_zero,Nat.zero_add,Int.toNat_natCast,and_self,List.append_assoc,false_and,and_false]
 obtain ⟨⟨hab,hbn⟩,hn⟩:=hg
 refine ⟨by omega,⟨g.a+1,⟨Nat.le_refl _,.inr rfl⟩,rfl,fun k _=>same_of (by rw [show g.a+1-g.a-1=0 by omega]; rfl)⟩,fun i hi=>⟨fun hlt=>⟨⟨(insF g.a g.f (i-g.a-1),i),?_,rfl,fun k _=>same_of rfl⟩,fun h hh=>?_⟩,fun hge k _=>same_of ?_⟩⟩
 ·have hi:g.a+1<=i/\(i<=g.b\/i=g.a+1):=hi
  refine ⟨show g.a<=i by omega,Nat.le_refl _,?_⟩
  have key:∀ k,k=i-g.a-1->bub g.a (insF g.a g.f k) i=insF g.a g.f (k+1):=fun k hk=>by
   show _=bub g.a (insF g.a g.f k) (g.a+k+1)
   rw [show g.a+k+1=i by omega]
  have:=key _ rfl
  rw [show i-g.a-1+1=i-g.a by omega] at this
  exact this
 ·have hi:g.a+1<=i/\(i<=g.b\/i=g.a+1):=hi
  obtain ⟨h,j⟩:=h
  have hh:g.a<=j/\j<=i/\bub g.a h j=insF g.a g.f (i-g.a):=hh
  obtain ⟨q1,q2,q3⟩:=hh
  have hout:(insOut g).pre (i+1):=⟨by show g.a+1<=i+1; omega,.inl (by show i+1<=g.b; omega)⟩
  have hmo:(insOut g).meas (i+1)<(insOut g).meas i:=by show g.b-(i+1)<g.b-i; omega
  have e0:i+1-g.a-1=i-g.a:=by omega
  show (_->_)/\(_->_)
  simp only []
  refine ⟨fun hj=>?_,fun hj=>?_⟩
  ·have ej:((j:Int)-1).toNat=j-1:=by omega
   rw [ej]
   have eb:bub g.a h j=if (h j).y<(h (j-1)).y then bub g.a (swp h j) (j-1) else h:=by
    obtain ⟨j',rfl⟩:∃ j',j=j'+1:=⟨j-1,by omega⟩
    show (if g.a<j'+1/\(h (j'+1)).y<(h j').y then bub g.a (swp h (j'+1)) j' else h)=_
    have:g.a<j'+1:=by omega
    simp only [this,true_and,Nat.add_sub_cancel]
   refine ⟨by omega,by omega,by omega,by omega,by omega,fun hc=>?_,fun hc=>?_⟩
   ·rw [cmp_neg] at hc
    refine ⟨by omega,by omega,by omega,by omega,by omega,by omega,by omega,by omega,by omega,by omega,by omega,(swp h j,j-1),⟨show g.a<=j-1 by omega,show j-1<=i by omega,?_⟩,⟨show (j:Int)-1=((j-1:Nat):Int) by omega,fun k _=>?_⟩,show j-1<j by omega⟩
    ·rw [<-q3,eb,if_pos hc]
    ·exact upd2 (p:=k=j-1) (q:=k=j) (by
      show swp h j k=_
      unfold swp
      by_cases c1:k=j-1
      ·have c2:¬ k=j:=by omega
       rw [if_neg c2,if_pos c1,if_pos c1]
      ·by_cases c2:k=j
       ·rw [if_pos c2,if_neg c1,if_pos c2]
       ·rw [if_neg c2,if_neg c1,if_neg c1,if_neg c2]) ⟨by simp,by simp,by simp,by simp,by simp,by simp⟩ ⟨by simp,by simp,by simp,by simp,by simp,by simp⟩
   ·rw [cmp_neg] at hc
    refine ⟨by omega,i+1,hout,⟨rfl,fun k _=>same_of ?_⟩,hmo⟩
    rw [e0,<-q3,eb,if_neg hc]
  ·refine ⟨by omega,i+1,hout,⟨rfl,fun k _=>same_of ?_⟩,hmo⟩
   rw [e0,<-q3]
   obtain rfl:j=g.a:=by omega
   show h k=bub g.a h g.a k
   cases g.a with
   | zero=>rfl
   | succ a'=>
    show h k=(if a'+1<a'+1/\_ then _ else h) k
    rw [if_neg (fun hc=>Nat.lt_irrefl _ hc.1)]
 ·have hi:g.a+1<=i/\(i<=g.b\/i=g.a+1):=hi
  rw [show i-g.a-1=g.b-g.a-1 by omega]
def spOld:FSpec:=mkSpecM 58 [.arg 1] (γ:=Ed×Int) (fun | [.agg _ x,_],[.cells _ g _]=>some (edD x,Sx.intOf (g 0)) | _,_=>none) (fun g=>[edS g.1,.own 0 0]) (fun g=>[.cells 1 (lst [.int .i64 g.2]) 3]) (fun _=>True) (fun g=> .bool (decide (g.1.en<=g.2))) (fun g=>[.cells 1 (lst [.int .i64 g.2]) 3])
theorem ok_old:SpecOK Tryz.prog spOld:=by
 refine spec_soundM (specs:=[]) (all_ok trivial) (eqs:=[]) (fun _ _ h=>(List.not_mem_nil h).elim) Aff.mixed Tryz.func58 rfl (by kernel_rfl) (fun _ _=>by kernel_rfl) (fun g=>A0) true (fun g=>Nat.le_of_ble_eq_true (by kernel_rfl)) ?_
 rintro ⟨x,y⟩ hx
 refine vc_of (B:=True/\True/\True/\True/\True/\True/\True/\True/\True/\(Sx.Ask (decide (x.en<=y)=decide (x.en<=y))/\True)/\(True/\Sx.Ask (IntKind.i64=IntKind.i64)/\Sx.Ask (y=y))/\True) (by kernel_rfl) ?_
 simp only [ask_iff,br_iff,eq_self,true_and,and_true,implies_true,forall_const,decide_eq_true_eq,decide_eq_false_iff_not,ne_eq,Nat.mul_one,Nat.add_zero,Nat.zero_add,Int.toNat_natCast,and_self,List.append_assoc,false_and,and_false]
structure DeG where
 n:Nat
 f:Nat->Ed
 y:Int
def deD:List SV->List SO->Option DeG
 | [_,_],[.row _ n _ g _,.cells _ h _]=>some ⟨n,fun i=>edD (g i),Sx.intOf (h 0)⟩
 | _,_=>none
def oldS:SV:= .fn 58 1 (lst [.own 1 0])
def yCell (y:Int):SO:= .cells 1 (lst [.int .i64 y]) 3
def DeG.old (g:DeG) (i:Nat):Bool:=decide ((g.f i).en<=g.y)
def lead (p:Nat->Bool):Nat->Nat
 | 0=>0
 | n+1=>if lead p n<n then lead p n else if p n then n else n+1
theorem lead_le (p:Nat->Bool):∀ n,lead p n<=n
 | 0=>Nat.le_refl _
 | n+1=>by
  have:=lead_le p n
  simp only [lead]
  split
  ·omega
  ·split<;>omega
theorem lead_spec (p:Nat->Bool):∀ n,(∀ k,k<lead p n->p k=false)/\(lead p n<n->p (lead p n)=true)
 | 0=>⟨fun k hk=>absurd hk (Nat.not_lt_zero _),fun h=>absurd h (Nat.not_lt_zero _)⟩
 | n+1=>by
  have h:=lead_spec p n
  have hl:=lead_le p n
  simp only [lead]
  split
  ·rename_i hlt
   exact ⟨h.1,fun _=>h.2 hlt⟩
  ·rename_i hlt
   have e:lead p n=n:=by omega
   rw [e] at h
   split
   ·rename_i hp
    exact ⟨h.1,fun _=>hp⟩
   ·rename_i hp
    refine ⟨fun k hk=>?_,fun hc=>absurd hc (Nat.lt_irrefl _)⟩
    by_cases hkn:k=n
    ·subst hkn; simpa using hp
    ·exact h.1 k (by omega)
theorem lead_false {p:Nat->Bool}{n k:Nat}(h:k<lead p n):p k=false:=(lead_spec p n).1 k h
theorem lead_true {p:Nat->Bool}{n:Nat}(h:lead p n<n):p (lead p n)=true:=(lead_spec p n).2 h
theorem lead_eq {p:Nat->Bool}{n i:Nat}(h:i<n) (h1:∀ k,k<i->p k=false) (h2:p i=true):lead p n=i:=by
 rcases Nat.lt_trichotomy (lead p n) i with hc | hc | hc
 ·have:=h1 _ hc
  have t:=lead_true (p:=p) (n:=n) (by omega)
  rw [t] at this
  cases this
 ·exact hc
 ·have:=lead_false hc
  rw [h2] at this
  cases this
theorem lead_all {p:Nat->Bool}{n:Nat}(h:∀ k,k<n->p k=false):lead p n=n:=by
 have hl:=lead_le p n
 refine Classical.byContradiction fun hc=>?_
 have h1:lead p n<n:=by omega
 have:=h _ h1
 rw [lead_true h1] at this
 cases this
theorem lead_none {p:Nat->Bool}{n:Nat}(h:lead p n=n):∀ k,k<n->p k=false:=fun k hk=>lead_false (by rw [h]; exact hk)
def ixInv (g:DeG):Inv:=⟨Nat,fun i=>i<=g.n/\∀ k,k<i->g.old k=false,fun i=>⟨[(0,.osl 0 0),(1,oldS),(7,.int .i64 g.n),(8,.int .i64 i)],[edRow 0 g.n g.f,yCell g.y]⟩,fun i=>g.n-i⟩
def DeG.ix (g:DeG):Int:=if lead g.old g.n<g.n then lead g.old g.n else -1
def spIx:FSpec:=mkSpecM 74 [.arg 0,.part 1 0] deD (fun _=>[.osl 0 0,oldS]) (fun g=>[edRow 0 g.n g.f,yCell g.y]) (fun g=>g.n<=4294967296) (fun g=> .int .i64 g.ix) (fun g=>[edRow 0 g.n g.f,yCell g.y])
theorem ok_ix:SpecOK Tryz.prog spIx:=by
 refine spec_soundM (specs:=[spOld]) (all_ok (⟨ok_old,trivial⟩)) (eqs:=[]) (fun _ _ h=>(List.not_mem_nil h).elim) Aff.mixed Tryz.func74 rfl (by kernel_rfl) (fun _ _=>by kernel_rfl) (fun g=>(⟨[(2,.inv (ixInv g))],[]⟩:Ann)) true (fun g=>Nat.le_of_ble_eq_true (by kernel_rfl)) ?_
 rintro g hg
 refine vc_of (B:=let A:=Sx.Ask;let z4:=(A ((58:Go.FuncId)=(58:Go.FuncId))/\True/\A ((0:Nat)=(0:Nat)));let z1:=(IntKind.i64=IntKind.i64);let z6:=(A z1/\A ((↑g.n:Int)=(↑g.n:Int)));let z3:=(True/\A z1/\A (g.y=g.y));let z0:=(A (g.n=g.n)/\∀ i:Nat,i<g.n->(((((True/\A z1/\A ((g.f i).x=(g.f i).x))/\A z1/\A ((g.f i).y=(g.f i).y))/\A z1/\A ((g.f i).en=(g.f i).en))/\A z1/\A ((g.f i).dx=(g.f i).dx))/\A z1/\A ((g.f i).dy=(g.f i).dy))/\A z1/\A ((g.f i).s=(g.f i).s));True/\True/\True/\True/\(∃ g_1:Nat,A ((ixInv g).pre g_1)/\True/\(True/\z4/\z6/\(A z1/\A ((0:Int)=(↑g_1:Int)))/\True)/\z0/\z3/\True)/\∀ g_1:Nat,let z5:=(↑g_1:Int);let z2:=(g.f z5.toNat); (ixInv g).pre g_1->True/\Sx.Br (decide (z5<(↑g.n:Int))) (True/\True/\True/\True/\True/\A ((0:Int)<=z5/\z5<(↑g.n:Int))/\A (z5.toNat<g.n)/\((True/\(((((((True/\A z1/\A (z2.x=z2.x))/\A z1/\A (z2.y=z2.y))/\A z1/\A (z2.en=z2.en))/\A z1/\A (z2.dx=z2.dx))/\A z1/\A (z2.dy=z2.dy))/\A z1/\A (z2.s=z2.s))/\A ((0:Nat)=(0:Nat))/\True)/\z3/\True)/\A True)/\Sx.Br (decide (z2.en<=g.y)) (True/\True/\True/\True/\((A z1/\A (z5=g.ix))/\True)/\z0/\z3/\True) (A ((-9223372036854775808:Int)<=z5+(1:Int)/\z5+(1:Int)<=(9223372036854775807:Int))/\True/\∃ (g':Nat),A ((ixInv g).pre g')/\True/\((True/\z4/\z6/\(A z1/\A (z5+(1:Int)=(↑g':Int)))/\True)/\z0/\z3/\True)/\A ((ixInv g).meas g'<(ixInv g).meas g_1))) (True/\True/\True/\((A z1/\A ((-1:Int)=g.ix))/\True)/\z0/\z3/\True)) (by kernel_rfl) ?_
 simp only [ask_iff,br_iff,eq_self,true_and,and_true,implies_true,forall_const,decide_eq_true_eq,decide_eq_false_iff_not,ne_eq,Nat.mul_one,Nat.add_zero,Nat.zero_add,Int.toNat_natCast,and_self,List.append_assoc,false_and,and_false]
 refine ⟨⟨0,⟨Nat.zero_le _,fun k hk=>absurd hk (Nat.not_lt_zero _)⟩,rfl⟩,fun i hi=>⟨fun hlt=>⟨by omega,by omega,fun hc=>?_,fun hc=>⟨by omega,i+1,⟨show i+1<=g.n by omega,fun k hk=>?_⟩,rfl,show g.n-(i+1)<g.n-i by omega⟩⟩,fun hge=>?_⟩⟩
 ·have hi:i<=g.n/\∀ k,k<i->g.old k=false:=hi
  have e:=lead_eq (show i<g.n by omega) hi.2 (show g.old i=true from decide_eq_true hc)
  unfold DeG.ix
  rw [e,if_pos (by omega)]
 ·have hi:i<=g.n/\∀ k,k<i->g.old k=false:=hi
  by_cases hki:k=i
  ·subst hki; exact decide_eq_false hc
  ·exact hi.2 k (by omega)
 ·have hi:i<=g.n/\∀ k,k<i->g.old k=false:=hi
  obtain rfl:i=g.n:=by omega
  unfold DeG.ix
  rw [lead_all hi.2,if_neg (Nat.lt_irrefl _)]
def kept (g:DeG) (j:Nat):List Ed:=((List.range j).map g.f).filter fun e=>!decide (e.en<=g.y)
theorem eI_map {f:Nat->Ed}{n i:Nat}(h:i<n):eI ((List.range n).map f) i=f i:=by
 simp [eI,List.getD_eq_getElem?_getD,h]
theorem kept_succ (g:DeG) (j:Nat):kept g (j+1)=kept g j++if g.old j=true then [] else [g.f j]:=by
 unfold kept
 rw [List.range_succ,List.map_append,List.filter_append]
 congr 1
 unfold DeG.old
 by_cases h:(g.f j).en<=g.y<;>simp [h]
theorem kept_all {g:DeG}:∀ {j:Nat},(∀ k,k<j->g.old k=false)->kept g j=(List.range j).map g.f
 | 0,_=>rfl
 | j+1,h=>by
  rw [kept_succ,h j (Nat.lt_succ_self j),if_neg (by decide),kept_all (fun k hk=>h k (by omega)),List.range_succ,List.map_append]
  rfl
def deInv (g:DeG):Inv:=⟨(Nat->Ed)×Nat,fun h=>(h.2<=g.n/\(kept g h.2).length<h.2)/\(∀ k,k<(kept g h.2).length->h.1 k=eI (kept g h.2) k)/\∀ k,h.2<=k->h.1 k=g.f k,
 fun h=>⟨[(0,.osl 0 0),(1,oldS),(5,.int .i64 (kept g h.2).length),(6,.int .i64 h.2)],[edRow 0 g.n h.1,yCell g.y]⟩,fun h=>g.n-h.2⟩
def spDel:FSpec:=mkSpecM 57 [.arg 0,.part 1 0] deD (fun _=>[.osl 0 0,oldS]) (fun g=>[edRow 0 g.n g.f,yCell g.y]) (fun g=>g.n<=4294967296) (fun _=> .osl 0 1) (fun g=>[edRow 1 (kept g g.n).length (eI (kept g g.n)),yCell g.y])
theorem ok_del:SpecOK Tryz.prog spDel:=by
 refine spec_soundM (specs:=[spIx,spOld]) (all_ok (⟨ok_ix,ok_old,trivial⟩)) (eqs:=[]) (fun _ _ h=>(List.not_mem_nil h).elim) Aff.mixed Tryz.func57 rfl (by kernel_rfl) (fun _ _=>by kernel_rfl) (fun g=>(⟨[(5,.inv (deInv g))],[(1000012,[.shrink 4])]⟩:Ann)) true (fun g=>Nat.le_of_ble_eq_true (by kernel_rfl)) ?_
 rintro g hg
 refine vc_of (B:=let K:=Int.ofNat;let A:=Sx.Ask;let z22:=(↑g.n:Int);let z17:=(deInv g);let z15:=(0:Int);let z14:=(1:Int);let z12:=(9223372036854775807:Int);let z11:=(-9223372036854775808:Int);let z8:=(0:Nat);let z6:=(kept g g.n);let z4:=(A ((58:Go.FuncId)=(58:Go.FuncId))/\True/\A (z8=z8));let z0:=(IntKind.i64=IntKind.i64);let z5:=(True/\A z0/\A (g.y=g.y));True/\True/\True/\((True/\(True/\z4/\True)/\(A (g.n=g.n)/\∀ i:Nat,i<g.n->(((((True/\A z0/\A ((g.f i).x=(g.f i).x))/\A z0/\A ((g.f i).y=(g.f i).y))/\A z0/\A ((g.f i).en=(g.f i).en))/\A z0/\A ((g.f i).dx=(g.f i).dx))/\A z0/\A ((g.f i).dy=(g.f i).dy))/\A z0/\A ((g.f i).s=(g.f i).s))/\z5/\True)/\A (g.n<=(4294967296:Nat)))/\True/\True/\True/\Sx.Br (decide (g.ix=(-1:Int))) (True/\True/\True/\True/\(True/\True)/\(A (g.n=z6.length)/\∀ i:Nat,let z13:=(Fla.eI z6 i); i<z6.length->(((((True/\A z0/\A ((g.f i).x=z13.x))/\A z0/\A ((g.f i).y=z13.y))/\A z0/\A ((g.f i).en=z13.en))/\A z0/\A ((g.f i).dx=z13.dx))/\A z0/\A ((g.f i).dy=z13.dy))/\A z0/\A ((g.f i).s=z13.s))/\z5/\True) (True/\A (z11<=g.ix+z14/\g.ix+z14<=z12)/\True/\(∃ (g_1:(Nat->Fla.Ed)×Nat),A (z17.pre g_1)/\True/\(True/\z4/\(A z0/\A (g.ix=(↑(kept g g_1.snd).length:Int)))/\(A z0/\A (g.ix+z14=(↑g_1.snd:Int)))/\True)/\(A (g.n=g.n)/\∀ i:Nat,let z18:=(g_1.fst i); i<g.n->(((((True/\A z0/\A ((g.f i).x=z18.x))/\A z0/\A ((g.f i).y=z18.y))/\A z0/\A ((g.f i).en=z18.en))/\A z0/\A ((g.f i).dx=z18.dx))/\A z0/\A ((g.f i).dy=z18.dy))/\A z0/\A ((g.f i).s=z18.s))/\z5/\True)/\∀ (g_1:(Nat->Fla.Ed)×Nat),let z9:=(kept g g_1.snd);let z7:=(↑g_1.snd:Int);let z10:=(z11<=z7+z14/\z7+z14<=z12);let z3:=(↑z9.length:Int);let z2:=(g_1.fst z7.toNat); z17.pre g_1->True/\True/\True/\True/\Sx.Br (decide (z7<z22)) (True/\True/\A (z15<=z7/\z7<z22)/\A (z7.toNat<g.n)/\True/\True/\True/\True/\((True/\(((((((True/\A z0/\A (z2.x=z2.x))/\A z0/\A (z2.y=z2.y))/\A z0/\A (z2.en=z2.en))/\A z0/\A (z2.dx=z2.dx))/\A z0/\A (z2.dy=z2.dy))/\A z0/\A (z2.s=z2.s))/\A (z8=z8)/\True)/\z5/\True)/\A True)/\True/\Sx.Br (!decide (z2.en<=g.y)) (True/\True/\True/\A (z15<=z3/\z3<z22)/\A (z3.toNat<g.n)/\True/\A (z11<=z3+z14/\z3+z14<=z12)/\True/\True/\A z10/\True/\∃ (g':(Nat->Fla.Ed)×Nat),A (z17.pre g')/\True/\((True/\z4/\(A z0/\A (z3+z14=(↑(kept g g'.snd).length:Int)))/\(A z0/\A (z7+z14=(↑g'.snd:Int)))/\True)/\(A (g.n=g.n)/\∀ i:Nat,let z19:=(g_1.fst i); i<g.n->(((((True/\A z0/\A ((bif decide (i=z3.toNat/\z8<=z8/\z8<z8+(6:Nat)) then z2.x else z19.x)=(g'.fst i).x))/\A z0/\A ((bif decide (i=z3.toNat/\z8<=(1:Nat)/\(1:Nat)<z8+(6:Nat)) then z2.y else z19.y)=(g'.fst i).y))/\A z0/\A ((bif decide (i=z3.toNat/\z8<=(2:Nat)/\(2:Nat)<z8+(6:Nat)) then z2.en else z19.en)=(g'.fst i).en))/\A z0/\A ((bif decide (i=z3.toNat/\z8<=(3:Nat)/\(3:Nat)<z8+(6:Nat)) then z2.dx else z19.dx)=(g'.fst i).dx))/\A z0/\A ((bif decide (i=z3.toNat/\z8<=(4:Nat)/\(4:Nat)<z8+(6:Nat)) then z2.dy else z19.dy)=(g'.fst i).dy))/\A z0/\A ((bif decide (i=z3.toNat/\z8<=(5:Nat)/\(5:Nat)<z8+(6:Nat)) then z2.s else z19.s)=(g'.fst i).s))/\z5/\True)/\A (z17.meas g'<z17.meas g_1)) (True/\A z10/\True/\∃ (g':(Nat->Fla.Ed)×Nat),A (z17.pre g')/\True/\((True/\z4/\(A z0/\A (z3=(↑(kept g g'.snd).length:Int)))/\(A z0/\A (z7+z14=(↑g'.snd:Int)))/\True)/\(A (g.n=g.n)/\∀ i:Nat,let z20:=(g_1.fst i); i<g.n->(((((True/\A z0/\A (z20.x=(g'.fst i).x))/\A z0/\A (z20.y=(g'.fst i).y))/\A z0/\A (z20.en=(g'.fst i).en))/\A z0/\A (z20.dx=(g'.fst i).dx))/\A z0/\A (z20.dy=(g'.fst i).dy))/\A z0/\A (z20.s=(g'.fst i).s))/\z5/\True)/\A (z17.meas g'<z17.meas g_1))) (True/\True/\A (z15<=K z9.length/\K z9.length<=K g.n/\K g.n<=K g.n/\K g.n<=z22)/\True/\True/\True/\A (z15<=K z8/\K z8<=K z9.length/\K z9.length<=K g.n/\K g.n<=z22)/\True/\True/\True/\(True/\True)/\(A ((K z9.length-K z8).toNat=z6.length)/\∀ i:Nat,let z21:=(g_1.fst i);let z16:=(Fla.eI z6 i);let z1:=((K z9.length).toNat<=i/\i<(K z9.length).toNat+(K g.n-K z9.length).toNat); i<z6.length->(((((True/\A z0/\A ((bif decide z1 then z15 else z21.x)=z16.x))/\A z0/\A ((bif decide z1 then z15 else z21.y)=z16.y))/\A z0/\A ((bif decide z1 then z15 else z21.en)=z16.en))/\A z0/\A ((bif decide z1 then z15 else z21.dx)=z16.dx))/\A z0/\A ((bif decide z1 then z15 else z21.dy)=z16.dy))/\A z0/\A ((bif decide z1 then z15 else z21.s)=z16.s))/\z5/\True))) (by kernel_rfl) ?_
 simp only [ask_iff,br_iff,eq_self,true_and,and_true,implies_true,forall_const,decide_eq_true_eq,decide_eq_false_iff_not,ne_eq,Nat.mul_one,Nat.add_zero,Nat.zero_add,Int.toNat_natCast,and_self,List.append_assoc,false_and,and_false]
 have hle:=lead_le g.old g.n
 refine ⟨hg,fun hx=>?_,fun hx=>?_⟩
 ·have hall:∀ k,k<g.n->g.old k=false:=lead_none (by
   unfold DeG.ix at hx
   split at hx
   ·omega
   ·omega)
  have e:=kept_all (fun k hk=>hall k hk)
  exact ⟨by rw [e]; simp,fun i hi=>same_of (by rw [e]; rw [e] at hi; rw [eI_map (by simpa using hi)])⟩
 ·have hlt:lead g.old g.n<g.n:=by
   unfold DeG.ix at hx
   split at hx
   ·assumption
   ·exact absurd rfl hx
  have ex:g.ix=lead g.old g.n:=by unfold DeG.ix; rw [if_pos hlt]
  generalize hl:lead g.old g.n=l at *
  have hfl:∀ k,k<l->g.old k=false:=fun k hk=>lead_false (by rw [hl]; exact hk)
  have hol:g.old l=true:=by rw [<-hl]; exact lead_true (by rw [hl]; exact hlt)
  have ek:kept g (l+1)=(List.range l).map g.f:=by
   rw [kept_succ,if_pos hol,List.append_nil]
   exact kept_all hfl
  have ekl:(kept g (l+1)).length=l:=by rw [ek]; simp
  rw [ex]
  refine ⟨by omega,⟨(g.f,l+1),⟨⟨show l+1<=g.n by omega,by show (kept g (l+1)).length<l+1; omega⟩,fun k hk=>?_,fun k _=>rfl⟩,⟨by show (l:Int)=((kept g (l+1)).length:Int); omega,rfl⟩,fun i _=>same_of rfl⟩,fun h hh=>?_⟩
  ·have hk:k<(kept g (l+1)).length:=hk
   show g.f k=eI (kept g (l+1)) k
   rw [ek,eI_map (by omega)]
  ·obtain ⟨h,j⟩:=h
   have hh:(j<=g.n/\(kept g j).length<j)/\(∀ k,k<(kept g j).length->h k=eI (kept g j) k)/\∀ k,j<=k->h k=g.f k:=hh
   obtain ⟨⟨q1,q2⟩,q3,q4⟩:=hh
   simp only []
   refine ⟨fun hj=>?_,fun hj=>?_⟩
   ·have ehj:=q4 j (Nat.le_refl _)
    have ks:=kept_succ g j
    refine ⟨by omega,by omega,fun hc=>?_,fun hc=>?_⟩
    ·have ho:g.old j=false:=by simpa [DeG.old,ehj] using hc
     rw [if_neg (by rw [ho]; decide)] at ks
     refine ⟨by omega,by omega,by omega,by omega,(fun k=>if k=(kept g j).length then h j else h k,j+1),⟨⟨show j+1<=g.n by omega,by show (kept g (j+1)).length<j+1; rw [ks,List.length_append]; simp; omega⟩,fun k hk=>?_,fun k hk=>?_⟩,⟨⟨by show ((kept g j).length:Int)+1=((kept g (j+1)).length:Int); rw [ks,List.length_append]; rfl,rfl⟩,fun k _=>upd1v (p:=k=(kept g j).length) rfl ⟨by simp,by simp,by simp,by simp,by simp,by simp⟩⟩,show g.n-(j+1)<g.n-j by omega⟩
     ·have hk:k<(kept g (j+1)).length:=hk
      show (if k=(kept g j).length then h j else h k)=eI (kept g (j+1)) k
      rw [ks,List.length_append] at hk
      rw [ks,eI_app _ _ _ hk]
      by_cases c:k=(kept g j).length
      ·rw [if_pos c,if_neg (by omega),ehj]
      ·rw [if_neg c,if_pos (by simp at hk; omega),q3 k (by simp at hk; omega)]
     ·have hk:j+1<=k:=hk
      show (if k=(kept g j).length then h j else h k)=g.f k
      rw [if_neg (by omega),q4 k (by omega)]
    ·have ho:g.old j=true:=by simpa [DeG.old,ehj] using hc
     rw [if_pos ho,List.append_nil] at ks
     refine ⟨by omega,(h,j+1),⟨⟨show j+1<=g.n by omega,by show (kept g (j+1)).length<j+1; rw [ks]; omega⟩,fun k hk=>?_,fun k hk=>q4 k (by have hk:j+1<=k:=hk; omega)⟩,⟨⟨by rw [ks],rfl⟩,fun k _=>same_of rfl⟩,show g.n-(j+1)<g.n-j by omega⟩
     have hk:k<(kept g (j+1)).length:=hk
     show h k=eI (kept g (j+1)) k
     rw [ks] at hk ⊢
     exact q3 k hk
   ·obtain rfl:j=g.n:=by omega
    have e1:∀ m:Nat,(Int.ofNat m).toNat=m:=fun _=>rfl
    have e2:(Int.ofNat (kept g g.n).length-Int.ofNat 0).toNat=(kept g g.n).length:=by
     rw [show (Int.ofNat 0)=0 from rfl,Int.sub_zero,e1]
    have e3:∀ m:Nat,Int.ofNat m=(m:Int):=fun _=>rfl
    refine ⟨by simp only [e3]; omega,by simp only [e3]; omega,e2,fun k hk=>upd1 (r:=⟨0,0,0,0,0,0⟩) ?_⟩
    rw [e1,if_neg (by omega),q3 k hk]
end Go.Proofs.YtmhofgchidojoaaGreat.Flb
set_option linter.unusedSimpArgs false
set_option linter.unusedVariables false
namespace Go.Proofs.YtmhofgchidojoaaGreat.Flc
open Go.RowKit Sx Num Aff Con Fla Flb
def sumN (φ:Nat->Int):Nat->Int
 | 0=>0
 | n+1=>sumN φ n+φ n
theorem sumN_congr {φ ψ:Nat->Int}:∀ {n:Nat},(∀ k,k<n->φ k=ψ k)->sumN φ n=sumN ψ n
 | 0,_=>rfl
 | n+1,h=>by
  show sumN φ n+φ n=sumN ψ n+ψ n
  rw [sumN_congr (fun k hk=>h k (by omega)),h n (by omega)]
theorem sumN_upd (ψ:Nat->Int) (x:Int) {i:Nat}:∀ n,i<n->sumN (fun k=>if k=i then x else ψ k) n=sumN ψ n-ψ i+x
 | 0,h=>absurd h (Nat.not_lt_zero _)
 | n+1,h=>by
  show sumN (fun k=>if k=i then x else ψ k) n+(if n=i then x else ψ n)=sumN ψ n+ψ n-ψ i+x
  by_cases hi:n=i
  ·subst hi
   rw [if_pos rfl,sumN_congr (ψ:=ψ) (fun k hk=>if_neg (by omega))]
   omega
  ·rw [if_neg hi,sumN_upd ψ x n (by omega)]
   omega
def sw2 (f:Nat->Ed) (i j k:Nat):Ed:=if k=i then f j else if k=j then f i else f k
theorem sum_sw2 (φ:Ed->Int) (f:Nat->Ed) {i j:Nat}(h:i<j) (n:Nat) (hn:j<n):sumN (fun k=>φ (sw2 f i j k)) n=sumN (fun k=>φ (f k)) n:=by
 have e:∀ k,k<n->φ (sw2 f i j k)=(fun k=>if k=i then φ (f j) else (fun k=>if k=j then φ (f i) else φ (f k)) k) k:=fun k _=>by
  unfold sw2
  simp only []
  split
  ·rfl
  ·split
   ·rfl
   ·rfl
 rw [sumN_congr e,sumN_upd (fun k=>if k=j then φ (f i) else φ (f k)) (φ (f j)) n (by omega),sumN_upd (fun k=>φ (f k)) (φ (f i)) n hn,if_neg (by omega)]
 omega
def swr (f:Nat->Ed) (a b i k:Nat):Ed:=if a<=k/\k<a+i then f (k-a+b) else if b<=k/\k<b+i then f (k-b+a) else f k
theorem swr_zero (f:Nat->Ed) (a b:Nat):swr f a b 0=f:=by
 funext k
 unfold swr
 rw [if_neg (by omega),if_neg (by omega)]
theorem swr_succ (f:Nat->Ed) {a b i:Nat}(h:a+i<b):swr f a b (i+1)=sw2 (swr f a b i) (a+i) (b+i):=by
 funext k
 unfold sw2 swr
 repeat' split
 all_goals first
  | rfl
  | (exfalso; omega)
  | exact congrArg f (by omega)
theorem sum_swr (φ:Ed->Int) (f:Nat->Ed) {a b n:Nat}:∀ i,a+i<=b->b+i<=n->sumN (fun k=>φ (swr f a b i k)) n=sumN (fun k=>φ (f k)) n
 | 0,_,_=>by rw [swr_zero]
 | i+1,h1,h2=>by rw [swr_succ f (by omega),sum_sw2 φ _ (by omega) n (by omega),sum_swr φ f i (by omega) (by omega)]
def rot (f:Nat->Ed) (a m b k:Nat):Ed:=if k<a\/b<=k then f k else if k<a+(b-m) then f (k-a+m) else f (k-(b-m))
theorem rot_big (f:Nat->Ed) {m i j:Nat}(hi:i<=m) (h:j<i):rot (swr f (m-i) m j) (m-(i-j)) m (m+j)=rot f (m-i) m (m+j):=by
 funext k
 unfold rot swr
 repeat' split
 all_goals first
  | rfl
  | (exfalso; omega)
  | exact congrArg f (by omega)
theorem rot_small (f:Nat->Ed) {m i j:Nat}(hi:i<=m) (h:i<j):rot (swr f (m-i) (m+j-i) i) (m-i) m (m+(j-i))=rot f (m-i) m (m+j):=by
 funext k
 unfold rot swr
 repeat' split
 all_goals first
  | rfl
  | (exfalso; omega)
  | exact congrArg f (by omega)
theorem rot_same (f:Nat->Ed) {m i:Nat}(hi:i<=m):swr f (m-i) m i=rot f (m-i) m (m+i):=by
 funext k
 unfold rot swr
 repeat' split
 all_goals first
  | rfl
  | (exfalso; omega)
  | exact congrArg f (by omega)
theorem rot_none (f:Nat->Ed) {a m b:Nat}(h:a<=m) (h2:m<=b) (h3:a=m\/m=b):rot f a m b=f:=by
 funext k
 unfold rot
 repeat' split
 all_goals first
  | rfl
  | (exfalso; omega)
  | exact congrArg f (by omega)
theorem rot_out (f:Nat->Ed) {a m b k:Nat}(h:k<a\/b<=k):rot f a m b k=f k:=if_pos h
theorem rot_left (f:Nat->Ed) {a m b k:Nat}(h1:a<=k) (h2:k<a+(b-m)) (hm:a<=m) (hb:m<=b):rot f a m b k=f (k-a+m):=by
 unfold rot
 rw [if_neg (by omega),if_pos h2]
theorem rot_right (f:Nat->Ed) {a m b k:Nat}(h1:a+(b-m)<=k) (h2:k<b):rot f a m b k=f (k-(b-m)):=by
 unfold rot
 rw [if_neg (by omega),if_neg (by omega)]
theorem sum_rotN (φ:Ed->Int) {n m:Nat}:∀ (s i j:Nat) (f:Nat->Ed),i+j<=s->i<=m->m+j<=n->sumN (fun k=>φ (rot f (m-i) m (m+j) k)) n=sumN (fun k=>φ (f k)) n
 | 0,i,j,f,hs,_,_=>by rw [rot_none f (by omega) (by omega) (by omega)]
 | s+1,i,j,f,hs,hi,hj=>by
  by_cases h0:i=0\/j=0
  ·rw [rot_none f (by omega) (by omega) (by omega)]
  ·by_cases h1:i=j
   ·subst h1
    rw [<-rot_same f hi,sum_swr φ f i (by omega) (by omega)]
   ·by_cases h2:j<i
    ·rw [<-rot_big f hi h2,sum_rotN φ s (i-j) j _ (by omega) (by omega) hj,sum_swr φ f j (by omega) (by omega)]
    ·rw [<-rot_small f hi (by omega),sum_rotN φ s i (j-i) _ (by omega) hi (by omega),sum_swr φ f i (by omega) (by omega)]
theorem sum_rot (φ:Ed->Int) (f:Nat->Ed) {n a m b:Nat}(h1:a<=m) (h2:m<=b) (h3:b<=n):sumN (fun k=>φ (rot f a m b k)) n=sumN (fun k=>φ (f k)) n:=by
 have:=sum_rotN φ (n:=n) (m:=m) _ (m-a) (b-m) f (Nat.le_refl _) (by omega) (by omega)
 rwa [show m-(m-a)=a by omega,show m+(b-m)=b by omega] at this
theorem all_rot {P:Ed->Prop}{f:Nat->Ed}{lo n a m b:Nat}(h0:lo<=a) (h1:a<=m) (h2:m<=b) (h3:b<=n) (h:∀ k,lo<=k->k<n->P (f k)):∀ k,lo<=k->k<n->P (rot f a m b k):=fun k hl hk=>by
 unfold rot
 repeat' split
 all_goals exact h _ (by omega) (by omega)
def bis (p:Nat->Bool):Nat->Nat->Nat->Nat
 | 0,i,_=>i
 | k+1,i,j=>if i<j then if p ((i+j) / 2) then bis p k ((i+j) / 2+1) j else bis p k i ((i+j) / 2) else i
theorem bis_in (p:Nat->Bool):∀ k i j,i<=j->i<=bis p k i j/\bis p k i j<=j
 | 0,i,j,h=>⟨Nat.le_refl _,h⟩
 | k+1,i,j,h=>by
  simp only [bis]
  split
  ·split
   ·have:=bis_in p k ((i+j) / 2+1) j (by omega)
    omega
   ·have:=bis_in p k i ((i+j) / 2) (by omega)
    omega
  ·omega
theorem bis_lo (p:Nat->Bool):∀ k i j,bis p k i j=i\/(i<bis p k i j/\p (bis p k i j-1)=true)
 | 0,i,j=> .inl rfl
 | k+1,i,j=>by
  simp only [bis]
  split
  ·split
   ·rename_i h1 h2
    rcases bis_lo p k ((i+j) / 2+1) j with h | h
    ·refine .inr ⟨by omega,?_⟩
     rw [h,Nat.add_sub_cancel]
     exact h2
    ·exact .inr ⟨by omega,h.2⟩
   ·exact bis_lo p k i _
  ·exact .inl rfl
theorem bis_hi (p:Nat->Bool):∀ k i j,j-i<=k->i<=j->bis p k i j=j\/(bis p k i j<j/\p (bis p k i j)=false)
 | 0,i,j,h,h2=> .inl (by show i=j; omega)
 | k+1,i,j,h,h2=>by
  simp only [bis]
  split
  ·split
   ·exact bis_hi p k _ j (by omega) (by omega)
   ·rename_i h1 h2
    rcases bis_hi p k i ((i+j) / 2) (by omega) (by omega) with h | h
    ·refine .inr ⟨by omega,?_⟩
     rw [h]
     simpa using h2
    ·exact .inr ⟨by omega,h.2⟩
  ·exact .inl (by omega)
theorem bis_fuel (p:Nat->Bool):∀ k l i j,j-i<=k->j-i<=l->bis p k i j=bis p l i j
 | 0,0,i,j,_,_=>rfl
 | 0,l+1,i,j,h,_=>by show i=_; simp only [bis]; rw [if_neg (by omega)]
 | k+1,0,i,j,_,h=>by show _=i; simp only [bis]; rw [if_neg (by omega)]
 | k+1,l+1,i,j,h1,h2=>by
  simp only [bis]
  split
  ·split
   ·exact bis_fuel p k l _ j (by omega) (by omega)
   ·exact bis_fuel p k l i _ (by omega) (by omega)
  ·rfl
def bs (p:Nat->Bool) (i j:Nat):Nat:=bis p (j-i) i j
theorem bs_end (p:Nat->Bool) {i j:Nat}(h:¬ i<j):bs p i j=i:=by
 unfold bs
 rw [show j-i=0 by omega]
 rfl
theorem bs_up (p:Nat->Bool) {i j:Nat}(h:i<j) (hp:p ((i+j) / 2)=true):bs p ((i+j) / 2+1) j=bs p i j:=by
 unfold bs
 obtain ⟨k,hk⟩:∃ k,j-i=k+1:=⟨j-i-1,by omega⟩
 rw [hk]
 show _=if i<j then if p ((i+j) / 2) then bis p k ((i+j) / 2+1) j else bis p k i ((i+j) / 2) else i
 rw [if_pos h,if_pos hp]
 exact bis_fuel p _ _ _ _ (Nat.le_refl _) (by omega)
theorem bs_dn (p:Nat->Bool) {i j:Nat}(h:i<j) (hp:p ((i+j) / 2)=false):bs p i ((i+j) / 2)=bs p i j:=by
 unfold bs
 obtain ⟨k,hk⟩:∃ k,j-i=k+1:=⟨j-i-1,by omega⟩
 rw [hk]
 show _=if i<j then if p ((i+j) / 2) then bis p k ((i+j) / 2+1) j else bis p k i ((i+j) / 2) else i
 rw [if_pos h,if_neg (by rw [hp]; exact Bool.false_ne_true)]
 exact bis_fuel p _ _ _ _ (Nat.le_refl _) (by omega)
def less (f:Nat->Ed) (i j:Nat):Bool:=decide ((f i).y<(f j).y)
def mid (a b:Nat):Nat:=(a+b) / 2
def cutB (f:Nat->Ed) (a m b:Nat):Nat:=bs (fun c=>!less f (mid a b+m-1-c) c) (if mid a b<m then mid a b+m-b else a) (if mid a b<m then mid a b else m)
def symR (f:Nat->Ed) (a m b s:Nat):Nat->Ed:=if s<m/\m<mid a b+m-s then rot f s m (mid a b+m-s) else f
def symL (S:(Nat->Ed)->Nat->Nat->Nat->Nat->Ed) (f:Nat->Ed) (a b s:Nat):Nat->Ed:=if a<s/\s<mid a b then S f a s (mid a b) else f
def symH (S:(Nat->Ed)->Nat->Nat->Nat->Nat->Ed) (f:Nat->Ed) (a b e:Nat):Nat->Ed:=if mid a b<e/\e<b then S f (mid a b) e b else f
def symF:Nat->(Nat->Ed)->Nat->Nat->Nat->Nat->Ed
 | 0,f,_,_,_=>f
 | k+1,f,a,m,b=>
  if m-a=1 then rot f a m (bs (fun h=>less f h a) m b)
  else if b-m=1 then rot f (bs (fun h=>!less f m h) a m) m b
  else symH (symF k) (symL (symF k) (symR f a m b (cutB f a m b)) a b (cutB f a m b)) a b (mid a b+m-cutB f a m b)
theorem cut_in (f:Nat->Ed) {a m b:Nat}(h1:a<m) (h2:m<b):a<=cutB f a m b/\cutB f a m b<=m/\cutB f a m b<=mid a b/\mid a b+m-cutB f a m b<=b/\m<=mid a b+m-cutB f a m b:=by
 have hm:2*mid a b<=a+b/\a+b<=2*mid a b+1:=by unfold mid; omega
 unfold cutB
 split
 ·have:=bis_in (fun c=>!less f (mid a b+m-1-c) c) (mid a b-(mid a b+m-b)) (mid a b+m-b) (mid a b) (by omega)
  change _<=bs _ _ _/\bs _ _ _<=_ at this
  omega
 ·have:=bis_in (fun c=>!less f (mid a b+m-1-c) c) (m-a) a m (by omega)
  change _<=bs _ _ _/\bs _ _ _<=_ at this
  omega
theorem cut_says (f:Nat->Ed) {a m b:Nat}(h1:a<m) (h2:m<b) :
  (cutB f a m b=a\/mid a b+m-cutB f a m b=b\/(a<cutB f a m b/\(f (cutB f a m b-1)).y<=(f (mid a b+m-cutB f a m b)).y))/\
  (cutB f a m b=m\/mid a b+m-cutB f a m b=m\/(f (mid a b+m-cutB f a m b-1)).y<(f (cutB f a m b)).y):=by
 have hm:2*mid a b<=a+b/\a+b<=2*mid a b+1:=by unfold mid; omega
 have key:∀ lo hi,lo<=hi->cutB f a m b=bs (fun c=>!less f (mid a b+m-1-c) c) lo hi->(cutB f a m b=lo\/(lo<cutB f a m b/\(f (mid a b+m-1-(cutB f a m b-1))).y>=(f (cutB f a m b-1)).y))/\(cutB f a m b=hi\/(f (mid a b+m-1-cutB f a m b)).y<(f (cutB f a m b)).y):=fun lo hi hle e=>by
  have q1:=bis_lo (fun c=>!less f (mid a b+m-1-c) c) (hi-lo) lo hi
  have q2:=bis_hi (fun c=>!less f (mid a b+m-1-c) c) (hi-lo) lo hi (Nat.le_refl _) hle
  change bs _ lo hi=lo\/(lo<bs _ lo hi/\(!less f (mid a b+m-1-(bs _ lo hi-1)) (bs _ lo hi-1))=true) at q1
  change bs _ lo hi=hi\/(bs _ lo hi<hi/\(!less f (mid a b+m-1-bs _ lo hi) (bs _ lo hi))=false) at q2
  rw [<-e] at q1 q2
  refine ⟨?_,?_⟩
  ·rcases q1 with q1 | q1
   ·exact .inl q1
   ·refine .inr ⟨q1.1,?_⟩
    have:=q1.2
    unfold less at this
    simp at this
    omega
  ·rcases q2 with q2 | q2
   ·exact .inl q2
   ·refine .inr ?_
    have:=q2.2
    unfold less at this
    simpa using this
 have hin:=cut_in f h1 h2
 by_cases hc:mid a b<m
 ·obtain ⟨k1,k2⟩:=key (mid a b+m-b) (mid a b) (by omega) (by unfold cutB; rw [if_pos hc,if_pos hc])
  refine ⟨?_,?_⟩
  ·rcases k1 with k1 | ⟨k0,k1⟩
   ·exact .inr (.inl (by omega))
   ·refine .inr (.inr ⟨by omega,?_⟩)
    rw [show mid a b+m-1-(cutB f a m b-1)=mid a b+m-cutB f a m b by omega] at k1
    exact k1
  ·rcases k2 with k2 | k2
   ·exact .inr (.inl (by omega))
   ·refine .inr (.inr ?_)
    rw [show mid a b+m-cutB f a m b-1=mid a b+m-1-cutB f a m b by omega]
    exact k2
 ·obtain ⟨k1,k2⟩:=key a m (by omega) (by unfold cutB; rw [if_neg hc,if_neg hc])
  refine ⟨?_,?_⟩
  ·rcases k1 with k1 | ⟨k0,k1⟩
   ·exact .inl k1
   ·refine .inr (.inr ⟨by omega,?_⟩)
    rw [show mid a b+m-1-(cutB f a m b-1)=mid a b+m-cutB f a m b by omega] at k1
    exact k1
  ·rcases k2 with k2 | k2
   ·exact .inl k2
   ·refine .inr (.inr ?_)
    rw [show mid a b+m-cutB f a m b-1=mid a b+m-1-cutB f a m b by omega]
    exact k2
theorem sum_symF (φ:Ed->Int) {n:Nat}:∀ k f a m b,a<m->m<b->b<=n->sumN (fun i=>φ (symF k f a m b i)) n=sumN (fun i=>φ (f i)) n
 | 0,f,a,m,b,_,_,_=>rfl
 | k+1,f,a,m,b,h1,h2,h3=>by
  have hm:2*mid a b<=a+b/\a+b<=2*mid a b+1:=by unfold mid; omega
  have hc:=cut_in f h1 h2
  simp only [symF]
  split
  ·have:=bis_in (fun h=>less f h a) (b-m) m b (by omega)
   change _<=bs _ _ _/\bs _ _ _<=_ at this
   exact sum_rot φ f (by omega) (by omega) (by omega)
  ·split
   ·have:=bis_in (fun h=>!less f m h) (m-a) a m (by omega)
    change _<=bs _ _ _/\bs _ _ _<=_ at this
    exact sum_rot φ f (by omega) (by omega) (by omega)
   ·have e3:∀ g,sumN (fun i=>φ (symH (symF k) g a b (mid a b+m-cutB f a m b) i)) n=sumN (fun i=>φ (g i)) n:=fun g=>by
     unfold symH
     split
     ·exact sum_symF φ k g _ _ _ (by omega) (by omega) (by omega)
     ·rfl
    have e2:∀ g,sumN (fun i=>φ (symL (symF k) g a b (cutB f a m b) i)) n=sumN (fun i=>φ (g i)) n:=fun g=>by
     unfold symL
     split
     ·exact sum_symF φ k g _ _ _ (by omega) (by omega) (by omega)
     ·rfl
    rw [e3,e2]
    unfold symR
    split
    ·exact sum_rot φ f (by omega) (by omega) (by omega)
    ·rfl
theorem all_symF {P:Ed->Prop}{lo n:Nat}:∀ k f a m b,lo<=a->a<m->m<b->b<=n->(∀ i,lo<=i->i<n->P (f i))->∀ i,lo<=i->i<n->P (symF k f a m b i)
 | 0,f,a,m,b,_,_,_,_,h=>h
 | k+1,f,a,m,b,h0,h1,h2,h3,h=>by
  have hm:2*mid a b<=a+b/\a+b<=2*mid a b+1:=by unfold mid; omega
  have hc:=cut_in f h1 h2
  simp only [symF]
  split
  ·have:=bis_in (fun h=>less f h a) (b-m) m b (by omega)
   change _<=bs _ _ _/\bs _ _ _<=_ at this
   exact all_rot (by omega) (by omega) (by omega) (by omega) h
  ·split
   ·have:=bis_in (fun h=>!less f m h) (m-a) a m (by omega)
    change _<=bs _ _ _/\bs _ _ _<=_ at this
    exact all_rot (by omega) (by omega) (by omega) (by omega) h
   ·have e3:∀ g:Nat->Ed,(∀ i,lo<=i->i<n->P (g i))->∀ i,lo<=i->i<n->P (symH (symF k) g a b (mid a b+m-cutB f a m b) i):=fun g hg=>by
     unfold symH
     split
     ·exact all_symF k g _ _ _ (by omega) (by omega) (by omega) (by omega) hg
     ·exact hg
    have e2:∀ g:Nat->Ed,(∀ i,lo<=i->i<n->P (g i))->∀ i,lo<=i->i<n->P (symL (symF k) g a b (cutB f a m b) i):=fun g hg=>by
     unfold symL
     split
     ·exact all_symF k g _ _ _ (by omega) (by omega) (by omega) (by omega) hg
     ·exact hg
    refine e3 _ (e2 _ ?_)
    unfold symR
    split
    ·exact all_rot (by omega) (by omega) (by omega) (by omega) h
    ·exact h
theorem symF_out:∀ k f a m b,a<m->m<b->∀ i,i<a\/b<=i->symF k f a m b i=f i
 | 0,f,a,m,b,_,_=>fun _ _=>rfl
 | k+1,f,a,m,b,h1,h2=>fun i hi=>by
  have hm:2*mid a b<=a+b/\a+b<=2*mid a b+1:=by unfold mid; omega
  have hc:=cut_in f h1 h2
  simp only [symF]
  split
  ·have:=bis_in (fun h=>less f h a) (b-m) m b (by omega)
   change _<=bs _ _ _/\bs _ _ _<=_ at this
   exact rot_out f (by omega)
  ·split
   ·have:=bis_in (fun h=>!less f m h) (m-a) a m (by omega)
    change _<=bs _ _ _/\bs _ _ _<=_ at this
    exact rot_out f (by omega)
   ·have e3:∀ g,symH (symF k) g a b (mid a b+m-cutB f a m b) i=g i:=fun g=>by
     unfold symH
     split
     ·exact symF_out k g _ _ _ (by omega) (by omega) i (by omega)
     ·rfl
    have e2:∀ g,symL (symF k) g a b (cutB f a m b) i=g i:=fun g=>by
     unfold symL
     split
     ·exact symF_out k g _ _ _ (by omega) (by omega) i (by omega)
     ·rfl
    rw [e3,e2]
    unfold symR
    split
    ·exact rot_out f (by omega)
    ·rfl
def srtd (f:Nat->Ed) (a b:Nat):Prop:=∀ p q,a<=p->p<q->q<b->(f p).y<=(f q).y
theorem srtd.sub {f:Nat->Ed}{a b c d:Nat}(h:srtd f a b) (h1:a<=c) (h2:d<=b):srtd f c d:=fun p q hp hpq hq=>h p q (by omega) hpq (by omega)
theorem srtd.congr {f g:Nat->Ed}{a b:Nat}(h:srtd f a b) (e:∀ k,a<=k->k<b->g k=f k):srtd g a b:=fun p q hp hpq hq=>by
 rw [e p hp (by omega),e q (by omega) hq]
 exact h p q hp hpq hq
theorem srtd.glue {f:Nat->Ed}{a c b:Nat}(h1:srtd f a c) (h2:srtd f c b) (h:∀ p q,a<=p->p<c->c<=q->q<b->(f p).y<=(f q).y):srtd f a b:=fun p q hp hpq hq=>by
 by_cases hc:q<c
 ·exact h1 p q hp hpq hc
 ·by_cases hc2:p<c
  ·exact h p q hp hc2 (by omega) hq
  ·exact h2 p q (by omega) hpq hq
theorem srt_rot {f:Nat->Ed}{a m b:Nat}(ha:a<=m) (hb:m<=b) (h1:srtd f a m) (h2:srtd f m b) (h:a=m\/m=b\/(f (b-1)).y<=(f a).y):srtd (rot f a m b) a b:=by
 refine srtd.glue (c:=a+(b-m)) (fun p q hp hpq hq=>?_) (fun p q hp hpq hq=>?_) (fun p q hp hpc hcq hq=>?_)
 ·rw [rot_left f hp (by omega) ha hb,rot_left f (by omega) hq ha hb]
  exact h2 _ _ (by omega) (by omega) (by omega)
 ·rw [rot_right f hp (by omega),rot_right f (by omega) hq]
  exact h1 _ _ (by omega) (by omega) (by omega)
 ·rw [rot_left f hp (by omega) ha hb,rot_right f (by omega) hq]
  have e1:(f (p-a+m)).y<=(f (b-1)).y:=by
   by_cases e:p-a+m=b-1
   ·rw [e]; exact Int.le_refl _
   ·exact h2 _ _ (by omega) (by omega) (by omega)
  have e2:(f a).y<=(f (q-(b-m))).y:=by
   by_cases e:q-(b-m)=a
   ·rw [e]; exact Int.le_refl _
   ·exact h1 _ _ (by omega) (by omega) (by omega)
  omega
theorem symF_srt:∀ k f a m b,a<m->m<b->b-a<=k->srtd f a m->srtd f m b->srtd (symF k f a m b) a b
 | 0,f,a,m,b,h1,h2,h3=>by omega
 | k+1,f,a,m,b,h1,h2,h3=>fun ha hb=>by
  have hm:2*mid a b<=a+b/\a+b<=2*mid a b+1:=by unfold mid; omega
  have hc:=cut_in f h1 h2
  have hs:=cut_says f h1 h2
  simp only [symF]
  split
  ·have hi:=bis_in (fun h=>less f h a) (b-m) m b (by omega)
   have hl:=bis_lo (fun h=>less f h a) (b-m) m b
   have hh:=bis_hi (fun h=>less f h a) (b-m) m b (Nat.le_refl _) (by omega)
   change _<=bs _ _ _/\bs _ _ _<=_ at hi
   change bs _ _ _=_\/(_<bs _ _ _/\less f (bs _ _ _-1) a=true) at hl
   change bs _ _ _=_\/(bs _ _ _<_/\less f (bs _ _ _) a=false) at hh
   generalize bs (fun h=>less f h a) m b=s at *
   unfold less at hl hh
   rw [decide_eq_true_eq] at hl
   rw [decide_eq_false_iff_not] at hh
   refine srtd.glue (c:=s) (srt_rot (by omega) (by omega) ha (hb.sub (Nat.le_refl _) (by omega)) (by omega)) ((hb.sub (by omega) (Nat.le_refl _)).congr fun k hk _=>rot_out f (.inr hk)) fun p q hp hps hsq hq=>?_
   rw [rot_out f (.inr hsq)]
   have e1:(f s).y<=(f q).y:=by
    by_cases e:s=q
    ·rw [e]; exact Int.le_refl _
    ·exact hb s q (by omega) (by omega) hq
   by_cases hpl:p<a+(s-m)
   ·rw [rot_left f hp hpl (by omega) (by omega)]
    have:=hb (p-a+m) q (by omega) (by omega) hq
    exact this
   ·rw [rot_right f (by omega) hps,show p-(s-m)=a by omega]
    omega
  ·split
   ·have hi:=bis_in (fun h=>!less f m h) (m-a) a m (by omega)
    have hl:=bis_lo (fun h=>!less f m h) (m-a) a m
    have hh:=bis_hi (fun h=>!less f m h) (m-a) a m (Nat.le_refl _) (by omega)
    change _<=bs _ _ _/\bs _ _ _<=_ at hi
    change bs _ _ _=_\/(_<bs _ _ _/\(!less f m (bs _ _ _-1))=true) at hl
    change bs _ _ _=_\/(bs _ _ _<_/\(!less f m (bs _ _ _))=false) at hh
    generalize bs (fun h=>!less f m h) a m=s at *
    unfold less at hl hh
    simp only [Bool.not_eq_true',Bool.not_eq_false',decide_eq_true_eq,decide_eq_false_iff_not] at hl hh
    obtain rfl:b=m+1:=by omega
    refine srtd.glue (c:=s) ((ha.sub (Nat.le_refl _) (by omega)).congr fun k _ hk=>rot_out f (.inl hk)) (srt_rot (by omega) (by omega) (ha.sub (by omega) (Nat.le_refl _)) hb (by rw [Nat.add_sub_cancel]; omega)) fun p q hp hps hsq hq=>?_
    rw [rot_out f (.inl hps)]
    by_cases hql:q<s+1
    ·rw [rot_left f hsq (by omega) (by omega) (by omega),show q-s+m=m by omega]
     have e1:(f p).y<=(f (s-1)).y:=by
      by_cases e:p=s-1
      ·rw [e]; exact Int.le_refl _
      ·exact ha p (s-1) hp (by omega) (by omega)
     omega
    ·rw [rot_right f (by omega) hq,show q-(m+1-m)=q-1 by omega]
     exact ha p (q-1) hp (by omega) (by omega)
   ·generalize cutB f a m b=s at *
    obtain ⟨e,he⟩:∃ e,mid a b+m-s=e:=⟨_,rfl⟩
    rw [he] at hc hs ⊢
    have er:symR f a m b s=rot f s m e:=by
     unfold symR
     rw [he]
     split
     ·rfl
     ·rw [rot_none f (by omega) (by omega) (by omega)]
    rw [er]
    have l1:∀ i,i<s->rot f s m e i=f i:=fun i hi=>rot_out f (.inl hi)
    have l2:∀ i,s<=i->i<mid a b->rot f s m e i=f (i-s+m):=fun i h1 h2=>rot_left f h1 (by omega) (by omega) (by omega)
    have l3:∀ i,mid a b<=i->i<e->rot f s m e i=f (i-(e-m)):=fun i h1 h2=>rot_right f (by omega) h2
    have l4:∀ i,e<=i->rot f s m e i=f i:=fun i hi=>rot_out f (.inr hi)
    generalize rot f s m e=g at *
    have p1:srtd g a s:=(ha.sub (Nat.le_refl _) (by omega)).congr fun i _ hi=>l1 i hi
    have p2:srtd g s (mid a b):=fun p q hp hpq hq=>by
     rw [l2 p hp (by omega),l2 q (by omega) hq]
     exact hb _ _ (by omega) (by omega) (by omega)
    have p3:srtd g (mid a b) e:=fun p q hp hpq hq=>by
     rw [l3 p hp (by omega),l3 q (by omega) hq]
     exact ha _ _ (by omega) (by omega) (by omega)
    have p4:srtd g e b:=(hb.sub (by omega) (Nat.le_refl _)).congr fun i hi _=>l4 i hi
    have half:∀ p q,a<=p->p<mid a b->mid a b<=q->q<b->(g p).y<=(g q).y:=fun p q hp hpm hmq hq=>by
     by_cases c1:p<s
     ·rw [l1 p c1]
      by_cases c2:q<e
      ·rw [l3 q hmq c2]
       exact ha _ _ hp (by omega) (by omega)
      ·rw [l4 q (by omega)]
       have e1:(f p).y<=(f (s-1)).y:=by
        by_cases e:p=s-1
        ·rw [e]; exact Int.le_refl _
        ·exact ha p (s-1) hp (by omega) (by omega)
       have e2:(f e).y<=(f q).y:=by
        by_cases e':e=q
        ·rw [e']; exact Int.le_refl _
        ·exact hb e q (by omega) (by omega) hq
       omega
     ·rw [l2 p (by omega) hpm]
      by_cases c2:q<e
      ·rw [l3 q hmq c2]
       have e1:(f (p-s+m)).y<=(f (e-1)).y:=by
        by_cases e':p-s+m=e-1
        ·rw [e']; exact Int.le_refl _
        ·exact hb _ _ (by omega) (by omega) (by omega)
       have e2:(f s).y<=(f (q-(e-m))).y:=by
        by_cases e':q-(e-m)=s
        ·rw [e']; exact Int.le_refl _
        ·exact ha _ _ (by omega) (by omega) (by omega)
       omega
      ·rw [l4 q (by omega)]
       exact hb _ _ (by omega) (by omega) hq
    have L:srtd (symL (symF k) g a b s) a (mid a b)/\(∀ i,i<a\/mid a b<=i->symL (symF k) g a b s i=g i):=by
     unfold symL
     split
     ·exact ⟨symF_srt k g _ _ _ (by omega) (by omega) (by omega) p1 p2,symF_out k g _ _ _ (by omega) (by omega)⟩
     ·refine ⟨?_,fun _ _=>rfl⟩
      by_cases c:a=s
      ·exact p2.sub (by omega) (Nat.le_refl _)
      ·exact p1.sub (Nat.le_refl _) (by omega)
    have hL:∀ q,mid a b<=q->q<b->∀ i,a<=i->i<mid a b->(symL (symF k) g a b s i).y<=(g q).y:=fun q hq1 hq2=>by
     unfold symL
     split
     ·exact all_symF (P:=fun d=>d.y<=(g q).y) (lo:=a) (n:=mid a b) k g a s (mid a b) (Nat.le_refl _) (by omega) (by omega) (Nat.le_refl _) (fun p hp hpm=>half p q hp hpm hq1 hq2)
     ·exact fun p hp hpm=>half p q hp hpm hq1 hq2
    obtain ⟨L1,L2⟩:=L
    generalize symL (symF k) g a b s=G at *
    have H:srtd (symH (symF k) G a b e) (mid a b) b/\(∀ i,i<mid a b\/b<=i->symH (symF k) G a b e i=G i):=by
     have P3:srtd G (mid a b) e:=p3.congr fun i hi _=>L2 i (.inr hi)
     have P4:srtd G e b:=p4.congr fun i hi _=>L2 i (.inr (by omega))
     unfold symH
     split
     ·exact ⟨symF_srt k G _ _ _ (by omega) (by omega) (by omega) P3 P4,symF_out k G _ _ _ (by omega) (by omega)⟩
     ·refine ⟨?_,fun _ _=>rfl⟩
      by_cases c:mid a b=e
      ·exact P4.sub (by omega) (Nat.le_refl _)
      ·exact P3.sub (Nat.le_refl _) (by omega)
    have hH:∀ p,a<=p->p<mid a b->∀ i,mid a b<=i->i<b->(G p).y<=(symH (symF k) G a b e i).y:=fun p hp1 hp2=>by
     have base:∀ q,mid a b<=q->q<b->(G p).y<=(G q).y:=fun q hq1 hq2=>by
      rw [L2 q (.inr hq1)]
      exact hL q hq1 hq2 p hp1 hp2
     unfold symH
     split
     ·exact all_symF (P:=fun d=>(G p).y<=d.y) (lo:=mid a b) (n:=b) k G (mid a b) e b (Nat.le_refl _) (by omega) (by omega) (Nat.le_refl _) base
     ·exact base
    obtain ⟨H1,H2⟩:=H
    refine srtd.glue (c:=mid a b) (L1.congr fun i _ hi=>H2 i (.inl hi)) H1 fun p q hp hpm hmq hq=>?_
    rw [H2 p (.inl hpm)]
    exact hH p hp hpm q hmq hq
def symA (f:Nat->Ed) (a m b:Nat):Nat->Ed:=symF (b-a) f a m b
def pasF (n z:Nat):Nat->(Nat->Ed)->Nat->(Nat->Ed)
 | 0,f,_=>f
 | k+1,f,a=>if a+2*z<=n then pasF n z k (symA f a (a+z) (a+2*z)) (a+2*z) else if a+z<n then symA f a (a+z) n else f
def mrgF (n:Nat):Nat->(Nat->Ed)->Nat->(Nat->Ed)
 | 0,f,_=>f
 | k+1,f,z=>if z<n then mrgF n k (pasF n z n f 0) (2*z) else f
def insB (n:Nat):Nat->(Nat->Ed)->Nat->(Nat->Ed)
 | 0,f,_=>f
 | k+1,f,a=>if a+20<=n then insB n k (insF a f 19) (a+20) else insF a f (n-a-1)
def srtF (f:Nat->Ed) (n:Nat):Nat->Ed:=mrgF n n (insB n (n+1) f 0) 20
theorem sum_swp (φ:Ed->Int) (f:Nat->Ed) {j:Nat}(h0:1<=j):∀ n,j<n->sumN (fun k=>φ (swp f j k)) n=sumN (fun k=>φ (f k)) n:=fun n hn=>by
 have e:swp f j=sw2 f (j-1) j:=by
  funext k
  unfold swp sw2
  repeat' split
  all_goals first
   | rfl
   | (exfalso; omega)
   | exact congrArg f (by omega)
 rw [e]
 exact sum_sw2 φ f (by omega) n hn
theorem sum_bub (φ:Ed->Int) (a n:Nat):∀ (j:Nat) (f:Nat->Ed),j<n->sumN (fun k=>φ (bub a f j k)) n=sumN (fun k=>φ (f k)) n
 | 0,_,_=>rfl
 | j+1,f,h=>by
  simp only [bub]
  split
  ·rw [sum_bub φ a n j _ (by omega),sum_swp φ f (by omega) n h]
  ·rfl
theorem sum_ins (φ:Ed->Int) (f:Nat->Ed) (a n:Nat):∀ i,(i=0\/a+i<n)->sumN (fun k=>φ (insF a f i k)) n=sumN (fun k=>φ (f k)) n
 | 0,_=>rfl
 | i+1,h=>by
  show sumN (fun k=>φ (bub a (insF a f i) (a+i+1) k)) n=_
  rw [sum_bub φ a n _ _ (by omega),sum_ins φ f a n i (by omega)]
theorem bub_out (a:Nat):∀ (j:Nat) (f:Nat->Ed),∀ k,k<a\/j<k->bub a f j k=f k
 | 0,_=>fun _ _=>rfl
 | j+1,f=>fun k hk=>by
  simp only [bub]
  split
  ·rename_i hc
   rw [bub_out a j _ k (by omega)]
   unfold swp
   rw [if_neg (by omega),if_neg (by omega)]
  ·rfl
theorem all_swp {P:Ed->Prop}{f:Nat->Ed}{n j:Nat}(h0:1<=j) (hj:j<n) (h:∀ k,k<n->P (f k)):∀ k,k<n->P (swp f j k):=fun k hk=>by
 unfold swp
 split
 ·exact h _ (by omega)
 ·split
  ·exact h _ hj
  ·exact h _ hk
theorem all_bub {P:Ed->Prop}(a n:Nat):∀ (j:Nat) (f:Nat->Ed),j<n->(∀ k,k<n->P (f k))->∀ k,k<n->P (bub a f j k)
 | 0,_,_,h=>h
 | j+1,f,hj,h=>by
  simp only [bub]
  split
  ·exact all_bub a n j _ (by omega) (all_swp (by omega) hj h)
  ·exact h
theorem all_ins {P:Ed->Prop}(f:Nat->Ed) (a n:Nat) (h:∀ k,k<n->P (f k)):∀ i,(i=0\/a+i<n)->∀ k,k<n->P (insF a f i k)
 | 0,_=>h
 | i+1,hi=>all_bub a n _ _ (by omega) (all_ins f a n h i (by omega))
theorem ins_out (f:Nat->Ed) (a:Nat):∀ i k,k<a\/a+i<k->insF a f i k=f k
 | 0,_,_=>rfl
 | i+1,k,hk=>by
  show bub a (insF a f i) (a+i+1) k=f k
  rw [bub_out a _ _ k (by omega),ins_out f a i k (by omega)]
theorem srt_bub (a i:Nat):∀ (j:Nat) (f:Nat->Ed),a<=j->j<=i->(∀ p q,a<=p->p<q->q<=i->q≠j->(f p).y<=(f q).y)->∀ p q,a<=p->p<q->q<=i->(bub a f j p).y<=(bub a f j q).y
 | 0,f,h0,_,h=>fun p q hp hpq hq=>h p q hp hpq hq (by omega)
 | j+1,f,h0,hj,h=>by
  simp only [bub]
  split
  ·rename_i hc
   refine srt_bub a i j (swp f (j+1)) (by omega) (by omega) fun p q hp0 hpq hq hne=>?_
   have a0:swp f (j+1) (j+1)=f j:=by unfold swp; rw [if_pos rfl]; rfl
   have a1:swp f (j+1) j=f (j+1):=by unfold swp; rw [if_neg (by omega),if_pos (by omega)]
   have a2:∀ k,k≠j+1->k≠j->swp f (j+1) k=f k:=fun k h1 h2=>by unfold swp; rw [if_neg h1,if_neg (by omega)]
   by_cases hq1:q=j+1
   ·subst hq1
    rw [a0]
    by_cases hp:p=j
    ·subst hp; rw [a1]; omega
    ·rw [a2 p (by omega) hp]
     exact h p j (by omega) (by omega) (by omega) (by omega)
   ·rw [a2 q hq1 hne]
    by_cases hp1:p=j+1
    ·subst hp1; rw [a0]; exact h j q (by omega) (by omega) hq hq1
    ·by_cases hp:p=j
     ·subst hp; rw [a1]; exact h (p+1) q (by omega) (by omega) hq hq1
     ·rw [a2 p hp1 hp]; exact h p q (by omega) hpq hq hq1
  ·rename_i hc
   intro p q hp0 hpq hq
   by_cases hq1:q=j+1
   ·subst hq1
    by_cases hp:p=j
    ·subst hp
     omega
    ·have:=h p j (by omega) (by omega) (by omega) (by omega)
     omega
   ·exact h p q hp0 hpq hq hq1
theorem srt_ins (f:Nat->Ed) (a:Nat):∀ i,srtd (insF a f i) a (a+i+1)
 | 0=>fun p q h1 h2 h3=>by omega
 | i+1=>fun p q h1 h2 h3=>srt_bub a (a+i+1) (a+i+1) (insF a f i) (by omega) (Nat.le_refl _) (fun p q h1 h2 h3 h4=>srt_ins f a i p q h1 h2 (by omega)) p q h1 h2 (by omega)
def blks (f:Nat->Ed) (z n s:Nat):Prop:=srtd f (s*z) (min (s*z+z) n)
theorem insB_blk (n:Nat):∀ k f a t,a=t*20->n<a+k->(∀ s,s<t->blks f 20 n s)->∀ s,blks (insB n k f a) 20 n s
 | 0,f,a,t,ha,hk,h=>fun s=>by
  by_cases hs:s<t
  ·exact h s hs
  ·intro p q h1 h2 h3
   omega
 | k+1,f,a,t,ha,hk,h=>by
  simp only [insB]
  split
  ·refine insB_blk n k _ _ (t+1) (by omega) (by omega) fun s hs=>?_
   by_cases e:s=t
   ·subst e
    exact (srt_ins f a 19).sub (by omega) (by omega)
   ·exact (h s (by omega)).congr fun i _ hi=>ins_out f a 19 i (by omega)
  ·intro s
   by_cases hs:s<t
   ·exact (h s hs).congr fun i _ hi=>ins_out f a _ i (by omega)
   ·by_cases e:s=t
    ·subst e
     exact (srt_ins f a (n-a-1)).sub (by omega) (by omega)
    ·intro p q h1 h2 h3
     omega
theorem symA_out {f:Nat->Ed}{a m b i:Nat}(h1:a<m) (h2:m<b) (hi:i<a\/b<=i):symA f a m b i=f i:=symF_out _ f a m b h1 h2 i hi
theorem symA_srt {f:Nat->Ed}{a m b:Nat}(h1:a<m) (h2:m<b) (h3:srtd f a m) (h4:srtd f m b):srtd (symA f a m b) a b:=symF_srt _ f a m b h1 h2 (Nat.le_refl _) h3 h4
theorem pasF_blk (n z:Nat) (hz:0<z):∀ k f a t,a=t*(2*z)->n<=a+k->(∀ s,2*t<=s->blks f z n s)->(∀ s,s<t->blks f (2*z) n s)->∀ s,blks (pasF n z k f a) (2*z) n s:=fun k=>by
 induction k with
 | zero=>
  intro f a t ha hk h1 h2 s
  by_cases hs:s<t
  ·exact h2 s hs
  ·have:=Nat.mul_le_mul_right (2*z) (show t<=s by omega)
   intro p q h1 h2 h3
   omega
 | succ k ih=>
  intro f a t ha hk h1 h2
  have m0:2*t*z=a:=by rw [ha,Nat.mul_comm 2 t,Nat.mul_assoc]
  have m1:(2*t+1)*z=a+z:=by rw [Nat.add_mul,m0,Nat.one_mul]
  have b0:srtd f a (min (a+z) n):=by have:=h1 (2*t) (Nat.le_refl _); unfold blks at this; rwa [m0] at this
  have b1:srtd f (a+z) (min (a+z+z) n):=by have:=h1 (2*t+1) (by omega); unfold blks at this; rwa [m1] at this
  simp only [pasF]
  split
  ·rename_i hle
   refine ih _ _ (t+1) (by rw [Nat.add_mul,<-ha]; omega) (by omega) (fun s hs=>?_) (fun s hs=>?_)
   ·have:=Nat.mul_le_mul_right z hs
    rw [show 2*(t+1)=2*t+1+1 by omega,Nat.add_mul,m1] at this
    exact (h1 s (by omega)).congr fun i hi _=>symA_out (by omega) (by omega) (.inr (by omega))
   ·by_cases e:s=t
    ·subst e
     exact (symA_srt (by omega) (by omega) (b0.sub (Nat.le_refl _) (by omega)) (b1.sub (Nat.le_refl _) (by omega))).sub (by omega) (by omega)
    ·have:=Nat.mul_le_mul_right (2*z) (show s+1<=t by omega)
     rw [Nat.add_mul,<-ha] at this
     exact (h2 s (by omega)).congr fun i _ hi=>symA_out (by omega) (by omega) (.inl (by omega))
  ·split
   ·intro s
    by_cases hs:s<t
    ·have:=Nat.mul_le_mul_right (2*z) (show s+1<=t by omega)
     rw [Nat.add_mul,<-ha] at this
     exact (h2 s (by omega)).congr fun i _ hi=>symA_out (by omega) (by omega) (.inl (by omega))
    ·by_cases e:s=t
     ·subst e
      exact (symA_srt (by omega) (by omega) (b0.sub (Nat.le_refl _) (by omega)) (b1.sub (Nat.le_refl _) (by omega))).sub (by omega) (by omega)
     ·have:=Nat.mul_le_mul_right (2*z) (show t+1<=s by omega)
      rw [Nat.add_mul,<-ha] at this
      intro p q h1 h2 h3
      omega
   ·intro s
    by_cases hs:s<t
    ·exact h2 s hs
    ·by_cases e:s=t
     ·subst e
      exact b0.sub (by omega) (by omega)
     ·have:=Nat.mul_le_mul_right (2*z) (show t+1<=s by omega)
      rw [Nat.add_mul,<-ha] at this
      intro p q h1 h2 h3
      omega
theorem mrgF_srt (n:Nat):∀ k f z,0<z->n<=z+k->(∀ s,blks f z n s)->srtd (mrgF n k f z) 0 n
 | 0,f,z,h0,hk,h=>by
  have:=h 0
  unfold blks at this
  exact this.sub (by omega) (by omega)
 | k+1,f,z,h0,hk,h=>by
  simp only [mrgF]
  split
  ·exact mrgF_srt n k _ (2*z) (by omega) (by omega) (pasF_blk n z h0 n f 0 0 (by omega) (by omega) (fun s _=>h s) (fun s hs=>absurd hs (Nat.not_lt_zero _)))
  ·have:=h 0
   unfold blks at this
   exact this.sub (by omega) (by omega)
theorem srtF_srt (f:Nat->Ed) (n:Nat):srtd (srtF f n) 0 n:=mrgF_srt n n _ 20 (by omega) (by omega) (insB_blk n (n+1) f 0 0 (by omega) (by omega) fun s hs=>absurd hs (Nat.not_lt_zero _))
theorem sum_insB (φ:Ed->Int) (n:Nat):∀ k f a,sumN (fun i=>φ (insB n k f a i)) n=sumN (fun i=>φ (f i)) n
 | 0,_,_=>rfl
 | k+1,f,a=>by
  simp only [insB]
  split
  ·rw [sum_insB φ n k,sum_ins φ f a n 19 (by omega)]
  ·rw [sum_ins φ f a n _ (by omega)]
theorem sum_pasF (φ:Ed->Int) (n z:Nat) (hz:0<z):∀ k f a,sumN (fun i=>φ (pasF n z k f a i)) n=sumN (fun i=>φ (f i)) n
 | 0,_,_=>rfl
 | k+1,f,a=>by
  simp only [pasF]
  split
  ·rw [sum_pasF φ n z hz k]
   exact sum_symF φ _ f _ _ _ (by omega) (by omega) (by omega)
  ·split
   ·exact sum_symF φ _ f _ _ _ (by omega) (by omega) (by omega)
   ·rfl
theorem sum_mrgF (φ:Ed->Int) (n:Nat):∀ k f z,0<z->sumN (fun i=>φ (mrgF n k f z i)) n=sumN (fun i=>φ (f i)) n
 | 0,_,_,_=>rfl
 | k+1,f,z,h=>by
  simp only [mrgF]
  split
  ·rw [sum_mrgF φ n k _ _ (by omega),sum_pasF φ n z h]
  ·rfl
theorem sum_srtF (φ:Ed->Int) (f:Nat->Ed) (n:Nat):sumN (fun i=>φ (srtF f n i)) n=sumN (fun i=>φ (f i)) n:=by
 unfold srtF
 rw [sum_mrgF φ n n _ 20 (by omega),sum_insB]
theorem all_insB {P:Ed->Prop}(n:Nat):∀ k f a,(∀ i,i<n->P (f i))->∀ i,i<n->P (insB n k f a i)
 | 0,_,_,h=>h
 | k+1,f,a,h=>by
  simp only [insB]
  split
  ·exact all_insB n k _ _ (all_ins f a n h 19 (by omega))
  ·exact all_ins f a n h _ (by omega)
theorem all_symA {P:Ed->Prop}{n:Nat}{f:Nat->Ed}{a m b:Nat}(h1:a<m) (h2:m<b) (h3:b<=n) (h:∀ i,i<n->P (f i)):∀ i,i<n->P (symA f a m b i):=fun i hi=>all_symF (lo:=0) (n:=n) _ f a m b (Nat.zero_le _) h1 h2 h3 (fun i _ hi=>h i hi) i (Nat.zero_le _) hi
theorem all_pasF {P:Ed->Prop}(n z:Nat) (hz:0<z):∀ k f a,(∀ i,i<n->P (f i))->∀ i,i<n->P (pasF n z k f a i)
 | 0,_,_,h=>h
 | k+1,f,a,h=>by
  simp only [pasF]
  split
  ·exact all_pasF n z hz k _ _ (all_symA (by omega) (by omega) (by omega) h)
  ·split
   ·exact all_symA (by omega) (by omega) (by omega) h
   ·exact h
theorem all_mrgF {P:Ed->Prop}(n:Nat):∀ k f z,0<z->(∀ i,i<n->P (f i))->∀ i,i<n->P (mrgF n k f z i)
 | 0,_,_,_,h=>h
 | k+1,f,z,hz,h=>by
  simp only [mrgF]
  split
  ·exact all_mrgF n k _ _ (by omega) (all_pasF n z hz n f 0 h)
  ·exact h
theorem all_srtF {P:Ed->Prop}{f:Nat->Ed}{n:Nat}(h:∀ i,i<n->P (f i)):∀ i,i<n->P (srtF f n i):=all_mrgF n n _ 20 (by omega) (all_insB n _ f 0 h)
end Go.Proofs.YtmhofgchidojoaaGreat.Flc
