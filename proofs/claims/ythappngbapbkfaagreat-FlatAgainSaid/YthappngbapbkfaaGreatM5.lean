/- Part 5 of the texts that the law's proof leans on. -/
import Derived.Test.YthappngbapbkfaaGreatM4
import Derived.Laws.EntriesVeiled
namespace Go.Proofs.YthappngbapbkfaaGreat
set_option linter.unusedSimpArgs false
set_option linter.unusedVariables false
namespace Aff
open Go.RowKit Sx Num
set_option maxRecDepth 100000
theorem mixed:Tryz.prog.follows .mixedOrders=true:=by kernel_rfl
structure Mat where
 a:Int
 b:Int
 c:Int
 d:Int
 e:Int
 f:Int
def matL (m:Mat):List SV:=[.int .i64 m.a,.int .i64 m.b,.int .i64 m.c,.int .i64 m.d,.int .i64 m.e,.int .i64 m.f]
def matS (m:Mat):SV:= .agg 6 (lst (matL m))
def matD (g:Nat->SV):Mat:=⟨Sx.intOf (g 0),Sx.intOf (g 1),Sx.intOf (g 2),Sx.intOf (g 3),Sx.intOf (g 4),Sx.intOf (g 5)⟩
def inR (x m:Int):Bool:=decide (-m<=x)&&decide (x<=m)
def Mat.ok (m:Mat):Bool:=inR m.a 1048576&&(inR m.b 1048576&&(inR m.c 1048576&&(inR m.d 1048576&&(inR m.e 268435456&&inR m.f 268435456))))
def Mat.chk (m:Mat):Int:=if m.ok then 0 else 3
def be3:FSpec:=aa3 124 (γ:=Int×Int) (fun | [.int _ x,.int _ m]=>some (x,m) | _=>none) (fun g=>[.int .i64 g.1,.int .i64 g.2]) (fun g=>0<=g.2/\g.2<=4611686018427387904) (fun g=> .bool (inR g.1 g.2))
theorem bv2:aa2 Tryz.prog be3:=by
 refine ssW (specs:=[]) trivial Tryz.func124 (fun _=>A0) ?_;rintro ⟨x,m⟩ ⟨h1,h2⟩;simp only at h1 h2
 refine ab2 (B:=True/\True/\True/\Sx.Ask ((-9223372036854775808:Int)<=(0:Int)-m/\(0:Int)-m<=(9223372036854775807:Int))/\True/\True/\Br (decide ((0:Int)-m<=x)) (True/\True/\True/\True/\True/\True/\Sx.Ask (decide (x<=m)=inR x m)) (True/\True/\True/\Sx.Ask (false=inR x m))) (by kernel_rfl) ?_;simp +contextual [ac9,ae4,inR]
 omega
def bt1:FSpec:=aa3 95 (γ:=Mat) (fun | [.agg _ g]=>some (matD g) | _=>none) (fun m=>[matS m]) (fun _=>True) (fun m=> .int .i64 m.chk)
theorem bG5:aa2 Tryz.prog bt1:=by
 refine ssW (specs:=[be3]) (⟨bv2,trivial⟩) Tryz.func95 (fun _=>⟨[(2,.rounds 5)],[]⟩) ?_;intro m _;refine ab2 (B:=let T2:=fun p:Prop=>True/\True/\p;let K:=Br;let A:=Sx.Ask;let z10:=(4611686018427387904:Int);let z9:=(9223372036854775807:Int);let z8:=(-9223372036854775808:Int);let z7:=(1048576:Int);let z6:=(0:Int);let z5:=(268435456:Int);let z4:=(1:Int);let z1:=(z6<=z7/\z7<=z10);let z0:=(IntKind.i64=IntKind.i64);let q0:=fun p:Int=>A z0/\A (p=p);let z3:=(q0 z7);let z2:=(T2 (A z0/\A ((3:Int)=m.chk)));T2 (T2 (T2 (T2 (T2 (T2 (True/\A (z6<=z6/\z6 < ↑(4:Nat))/\T2 ((((q0 m.a)/\z3/\True)/\A z1)/\True/\K (!inR m.a z7) z2 (A (z8<=z6+z4/\z6+z4<=z9)/\T2 (A (z6<=z6+z4/\z6+z4 < ↑(4:Nat))/\T2 ((((q0 m.b)/\z3/\True)/\A z1)/\True/\K (!inR m.b z7) z2 (A (z8<=z6+z4+z4/\z6+z4+z4<=z9)/\T2 (A (z6<=z6+z4+z4/\z6+z4+z4 < ↑(4:Nat))/\T2 ((((q0 m.c)/\z3/\True)/\A z1)/\True/\K (!inR m.c z7) z2 (A (z8<=z6+z4+z4+z4/\z6+z4+z4+z4<=z9)/\T2 (A (z6<=z6+z4+z4+z4/\z6+z4+z4+z4 < ↑(4:Nat))/\T2 ((((q0 m.d)/\z3/\True)/\A z1)/\True/\K (!inR m.d z7) z2 (A (z8<=z6+z4+z4+z4+z4/\z6+z4+z4+z4+z4<=z9)/\T2 (T2 ((((q0 m.e)/\(q0 z5)/\True)/\A (z6<=z5/\z5<=z10))/\T2 (K (!inR m.e z5) (T2 (True/\A z0/\A ((3:Int)=m.chk))) (T2 ((((q0 m.f)/\(q0 z5)/\True)/\A (z6<=z5/\z5<=z10))/\T2 (K (!inR m.f z5) z2 (T2 (A z0/\A (z6=m.chk))))))))))))))))))))))))))) (by kernel_rfl) ?_;simp +contextual [ac9,ae4,Mat.chk,Mat.ok]
def Mat.imgX (m:Mat) (x y:Int):Int:=nr (m.a*x+m.c*y+m.e) 4096
def Mat.imgY (m:Mat) (x y:Int):Int:=nr (m.b*x+m.d*y+m.f) 4096
def Mat.appE (m:Mat) (x y:Int):Int:=
 if m.ok=false then 3 else if (inR x 32767&&inR y 32767)=false then 3 else if (inR (m.imgX x y) 32767&&inR (m.imgY x y) 32767)=false then 10 else 0
def bE1:FSpec:=aa3 113 (γ:=Int×Int) (fun | [.int _ x,.int _ m]=>some (x,m) | _=>none) (fun g=>[.int .i64 g.1,.int .i64 g.2]) (fun g=>(-4611686018427387904<=g.1/\g.1<=4611686018427387904)/\1<=g.2/\g.2<=9223372036854775807) (fun g=> .int .i64 (g.1 / g.2))
theorem bv6:aa2 Tryz.prog bE1:=by
 refine ssW (specs:=[]) trivial Tryz.func113 (fun _=>A0) ?_;rintro ⟨a,b⟩ ⟨⟨h1,h2⟩,h3,h4⟩;simp only at h1 h2 h3 h4
 have t1:=aH2 a b h3;have t2:=aH1 a b h3;have t3:=au4 a b h3;have t4:=aA5 a b h3;refine ab2 (B:=let K:=IntKind.i64;let A:=Sx.Ask;True/\True/\True/\A (b≠(0:Int)/\(-9223372036854775808:Int)<=a.tdiv b/\a.tdiv b<=(9223372036854775807:Int))/\True/\True/\True/\A (b≠(0:Int))/\True/\Br (decide (a.tmod b<(0:Int))) (True/\A ((-9223372036854775808:Int)<=a.tdiv b-(1:Int)/\a.tdiv b-(1:Int)<=(9223372036854775807:Int))/\True/\True/\True/\True/\A (K=K)/\A (a.tdiv b-(1:Int)=a / b)) (True/\True/\True/\A (K=K)/\A (a.tdiv b=a / b))) (by kernel_rfl) ?_;simp only [ac9,ae4,xD,xC,lA,lI];refine ⟨by omega,by omega,fun h=>⟨by omega,(t2 h).1⟩,fun h=>t3 (by omega)⟩
def aH8:FSpec:=aa3 89 (γ:=Int×Int) (fun | [.int _ x,.int _ m]=>some (x,m) | _=>none) (fun g=>[.int .i64 g.1,.int .i64 g.2]) (fun g=>(-4611686018427387904<=g.1/\g.1<=4611686018427387904)/\1<=g.2/\g.2<=4611686018427387904) (fun g=> .int .i64 (nr g.1 g.2))
theorem aA9:aa2 Tryz.prog aH8:=by
 refine ssW (specs:=[bE1]) (⟨bv6,trivial⟩) Tryz.func89 (fun _=>A0) ?_;rintro ⟨a,b⟩ ⟨⟨h1,h2⟩,h3,h4⟩;simp only at h1 h2 h3 h4
 have q1:=aF5 a b h3;have q2:=aA5 a b h3;refine ab2 (B:=let A:=Sx.Ask;let z2:=(IntKind.i64=IntKind.i64);let z1:=(-9223372036854775808:Int);let z0:=(9223372036854775807:Int);True/\True/\True/\(((A z2/\A (a=a))/\(A z2/\A (b=b))/\True)/\A (((-4611686018427387904:Int)<=a/\a<=(4611686018427387904:Int))/\(1:Int)<=b/\b<=z0))/\True/\True/\True/\True/\A (z1<=a / b*b/\a / b*b<=z0)/\A (z1<=a-a / b*b/\a-a / b*b<=z0)/\True/\True/\True/\True/\A (z1<=b-(a-a / b*b)/\b-(a-a / b*b)<=z0)/\True/\Br (decide (b-(a-a / b*b)<=a-a / b*b)) (True/\A (z1<=a / b+(1:Int)/\a / b+(1:Int)<=z0)/\True/\True/\True/\True/\A z2/\A (a / b+(1:Int)=nr a b)) (True/\True/\True/\A z2/\A (a / b=nr a b))) (by kernel_rfl) ?_;simp only [ac9,ae4,xD,xC,lA,lI];generalize hq:a / b=q at *
 generalize hp:q*b=p at *
 refine ⟨by omega,by omega,by omega,by omega,fun h=>⟨by omega,?_⟩,fun h=>?_⟩
 ·subst hq; subst hp; first | exact aT7 (xO h) | exact aT7 (by simpa using h)
 ·subst hq; subst hp; first | exact aT6 (uN h) | exact aT6 (by simpa using h)
theorem aJ4 {a x A X:Int}(h : -A<=a/\a<=A) (k : -X<=x/\x<=X) : -(A*X)<=a*x/\a*x<=A*X:=by
 have hA:0<=A:=by omega
 have hX:0<=X:=by omega
 have e:(a*x).natAbs<=(A*X).natAbs:=by
  rw [Int.natAbs_mul,Int.natAbs_mul];exact ui (by omega) (by omega)
 have p:0<=A*X:=lQ hA hX;omega
theorem bB2 (m:Mat) (h:m.ok=false):m.chk=3:=by simp [Mat.chk,h]
theorem bc6 (m:Mat) (h:m.ok=true):m.chk=0:=by simp [Mat.chk,h]
theorem Mat.b31 {m:Mat}(h:m.ok=true):(-1048576<=m.a/\m.a<=1048576)/\(-1048576<=m.b/\m.b<=1048576)/\(-1048576<=m.c/\m.c<=1048576)/\(-1048576<=m.d/\m.d<=1048576)/\(-268435456<=m.e/\m.e<=268435456)/\(-268435456<=m.f/\m.f<=268435456):=by
 simpa [Mat.ok,inR] using h
def Mat.out (m n:Mat):Mat:=⟨nr (n.a*m.a+n.c*m.b) 4096,nr (n.b*m.a+n.d*m.b) 4096,nr (n.a*m.c+n.c*m.d) 4096,nr (n.b*m.c+n.d*m.d) 4096,nr (n.a*m.e+n.c*m.f) 4096+n.e,nr (n.b*m.e+n.d*m.f) 4096+n.f⟩
def bK8:FSpec:=aa3 96 (γ:=Int×Int×Int) (fun | [.int _ x,.ref _ s,.ref _ d]=>some (x,Sx.intOf (s 0),Sx.intOf (d 0)) | _=>none) (fun g=>[.int .i64 g.1,.ref 1 (lst [.int .i64 g.2.1]),.ref 1 (lst [.int .i64 g.2.2])])
 (fun g=>(-4611686018427387904<=g.2.1*g.1/\g.2.1*g.1<=4611686018427387904)/\1<=g.2.2/\g.2.2<=4611686018427387904) (fun g=> .int .i64 (nr (g.2.1*g.1) g.2.2))
theorem bS4:aa2 Tryz.prog bK8:=by
 refine ssW (specs:=[aH8]) (⟨aA9,trivial⟩) Tryz.func96 (fun _=>A0) ?_;rintro ⟨x,s,d⟩ ⟨⟨h1,h2⟩,h3,h4⟩;simp only at h1 h2 h3 h4
 refine ab2 (B:=let A:=Sx.Ask;let z0:=(IntKind.i64=IntKind.i64);let q0:=fun p:Int=>A z0/\A (p=p);True/\True/\True/\A ((-9223372036854775808:Int)<=s*x/\s*x<=(9223372036854775807:Int))/\True/\(((q0 (s*x))/\(q0 d)/\True)/\A (((-4611686018427387904:Int)<=s*x/\s*x<=(4611686018427387904:Int))/\(1:Int)<=d/\d<=(4611686018427387904:Int)))/\True/\True/\q0 (nr (s*x) d)) (by kernel_rfl) ?_;simp [ac9,ae4];omega
def b01:FSpec:=aa3 9 (γ:=Int×Int×Int) (fun | [.int _ x,.int _ l,.int _ h]=>some (x,l,h) | _=>none) (fun g=>[.int .i64 g.1,.int .i64 g.2.1,.int .i64 g.2.2])
 (fun g=>(-2305843009213693952<=g.2.1/\g.2.1<=g.2.2)/\g.2.2<=4611686018427387903/\g.2.2-g.2.1<=4611686018427387903) (fun g=> .int .i64 (cutI g.1 g.2.1 g.2.2))
theorem b37:aa2 Tryz.prog b01:=by
 refine ssW (specs:=[]) trivial Tryz.func9 (fun _=>A0) ?_;rintro ⟨x,low,high⟩ ⟨⟨h1,h2⟩,h3,h4⟩;simp only at h1 h2 h3 h4
 obtain ⟨e1,e2,e3⟩:=a52 x (high-low+1) (by omega);have h5:=xQ (x.tmod (high-low+1)) (b:=high-low+1) (by omega);have h6:=xJ (x.tmod (high-low+1)) (b:=high-low+1) (by omega);have e4:(x.tmod (high-low+1)+(high-low+1)).tmod (high-low+1)=x % (high-low+1):=by
  rw [Int.tmod_eq_emod_of_nonneg (by omega),Int.add_emod_right,e1]
 refine ab2 (B:=let A:=Sx.Ask;let z3:=(high-low+(1:Int)≠(0:Int));let z2:=(9223372036854775807:Int);let z1:=(-9223372036854775808:Int);let z0:=(high-low+(1:Int));True/\True/\True/\A (z1<=high-low/\high-low<=z2)/\A (z1<=high-low+(1:Int)/\high-low+(1:Int)<=z2)/\True/\True/\True/\True/\A z3/\True/\A (z1<=x.tmod z0+z0/\x.tmod z0+z0<=z2)/\True/\A z3/\A (z1<=low+(x.tmod z0+z0).tmod z0/\low+(x.tmod z0+z0).tmod z0<=z2)/\True/\True/\A (IntKind.i64=IntKind.i64)/\A (low+(x.tmod z0+z0).tmod z0=cutI x low high)) (by kernel_rfl) ?_;simp only [e4];rw [e1] at h5 h6;simp [ac9,ae4,cutI];omega
def sizeI (x:Int):Int:=if x<0-x then 0-x else x
abbrev eqP:List (TypeId×List CK):=[(39,[.int,.int]),(44,[.int,.int,.int,.int,.int,.int])]
end Aff
set_option linter.unusedSimpArgs false
set_option linter.unusedVariables false
namespace Aft
open Go.RowKit Sx Num Aff
set_option maxRecDepth 100000
end Aft
set_option linter.unusedSimpArgs false
set_option linter.unusedVariables false
namespace Afi
open Go.RowKit Sx Num Aff Aft
set_option maxRecDepth 100000
def det (m:Mat):Int:=m.a*m.d-m.b*m.c
def sg (d:Int):Int:=if d<0 then -1 else 1
def ab (d:Int):Int:=if d<0 then 0-d else d
def over (m:Mat) (x:Int):Int:=nr (sg (det m)*x) (ab (det m))
def ax8 (m:Mat):Mat:=⟨over m (16777216*m.d),over m (-16777216*m.b),over m (-16777216*m.c),over m (16777216*m.a),over m (4096*(m.c*m.f-m.d*m.e)),over m (4096*(m.b*m.e-m.a*m.f))⟩
def invE (m:Mat):Int:=if m.ok=false then 3 else if det m=0 then 8 else if (ax8 m).ok=false then 10 else 0
def invM (m:Mat):Mat:=if invE m=0 then ax8 m else ⟨0,0,0,0,0,0⟩
def aS9:FSpec:=aa3 76 (γ:=Mat) (fun | [.agg _ g]=>some (matD g) | _=>none) (fun g=>[matS g]) (fun _=>True)
 (fun g=> .tup 2 (lst [matS (invM g),.int .i64 (invE g)]))
theorem aZ4:aa2 Tryz.prog aS9:=by
 refine ssW (specs:=[bt1,bK8]) (⟨bG5,bS4,trivial⟩) Tryz.func76 (fun _=>⟨[],[(10,[.tmp 7])]⟩) ?_;intro m _;refine ab2 (B:=let T3:=fun p:Prop=>True/\True/\True/\p;let T4:=fun p:Prop=>True/\True/\True/\True/\p;let T5:=fun p:Prop=>True/\True/\True/\True/\True/\p;let J:=IntKind.i64;let K:=Br;let A:=Sx.Ask;T4 (((((((((True/\A (J=J)/\A (m.a=m.a))/\A (J=J)/\A (m.b=m.b))/\A (J=J)/\A (m.c=m.c))/\A (J=J)/\A (m.d=m.d))/\A (J=J)/\A (m.e=m.e))/\A (J=J)/\A (m.f=m.f))/\True)/\A True)/\T3 (K (decide (m.chk≠(0:Int))) (T4 ((True/\True)/\(True/\(((((True/\A (J=J)/\A ((0:Int)=(invM m).a))/\A (J=J)/\A ((0:Int)=(invM m).b))/\A (J=J)/\A ((0:Int)=(invM m).c))/\A (J=J)/\A ((0:Int)=(invM m).d))/\A (J=J)/\A ((0:Int)=(invM m).e))/\A (J=J)/\A ((0:Int)=(invM m).f))/\A (J=J)/\A (m.chk=invE m))) (T4 (A ((-9223372036854775808:Int)<=m.a*m.d/\m.a*m.d<=(9223372036854775807:Int))/\T4 (A ((-9223372036854775808:Int)<=m.b*m.c/\m.b*m.c<=(9223372036854775807:Int))/\A ((-9223372036854775808:Int)<=m.a*m.d-m.b*m.c/\m.a*m.d-m.b*m.c<=(9223372036854775807:Int))/\T5 (True/\K (decide (m.a*m.d-m.b*m.c=(0:Int))) (T3 ((True/\True)/\(True/\(((((True/\A (J=J)/\A ((0:Int)=(invM m).a))/\A (J=J)/\A ((0:Int)=(invM m).b))/\A (J=J)/\A ((0:Int)=(invM m).c))/\A (J=J)/\A ((0:Int)=(invM m).d))/\A (J=J)/\A ((0:Int)=(invM m).e))/\A (J=J)/\A ((0:Int)=(invM m).f))/\A (J=J)/\A ((8:Int)=invE m))) (True/\True/\K (decide (m.a*m.d-m.b*m.c<(0:Int))) (True/\A ((-9223372036854775808:Int)<=(0:Int)-(m.a*m.d-m.b*m.c)/\(0:Int)-(m.a*m.d-m.b*m.c)<=(9223372036854775807:Int))/\T5 (True/\True/\A ((-9223372036854775808:Int)<=(16777216:Int)*m.d/\(16777216:Int)*m.d<=(9223372036854775807:Int))/\(((A (J=J)/\A ((16777216:Int)*m.d=(16777216:Int)*m.d))/\(True/\A (J=J)/\A ((-1:Int)=(-1:Int)))/\(True/\A (J=J)/\A ((0:Int)-(m.a*m.d-m.b*m.c)=(0:Int)-(m.a*m.d-m.b*m.c)))/\True)/\A (((-4611686018427387904:Int)<=(-1:Int)*((16777216:Int)*m.d)/\(-1:Int)*((16777216:Int)*m.d)<=(4611686018427387904:Int))/\(1:Int)<=(0:Int)-(m.a*m.d-m.b*m.c)/\(0:Int)-(m.a*m.d-m.b*m.c)<=(4611686018427387904:Int)))/\T3 (A ((-9223372036854775808:Int)<=(-16777216:Int)*m.b/\(-16777216:Int)*m.b<=(9223372036854775807:Int))/\(((A (J=J)/\A ((-16777216:Int)*m.b=(-16777216:Int)*m.b))/\(True/\A (J=J)/\A ((-1:Int)=(-1:Int)))/\(True/\A (J=J)/\A ((0:Int)-(m.a*m.d-m.b*m.c)=(0:Int)-(m.a*m.d-m.b*m.c)))/\True)/\A (((-4611686018427387904:Int)<=(-1:Int)*((-16777216:Int)*m.b)/\(-1:Int)*((-16777216:Int)*m.b)<=(4611686018427387904:Int))/\(1:Int)<=(0:Int)-(m.a*m.d-m.b*m.c)/\(0:Int)-(m.a*m.d-m.b*m.c)<=(4611686018427387904:Int)))/\T3 (A ((-9223372036854775808:Int)<=(-16777216:Int)*m.c/\(-16777216:Int)*m.c<=(9223372036854775807:Int))/\(((A (J=J)/\A ((-16777216:Int)*m.c=(-16777216:Int)*m.c))/\(True/\A (J=J)/\A ((-1:Int)=(-1:Int)))/\(True/\A (J=J)/\A ((0:Int)-(m.a*m.d-m.b*m.c)=(0:Int)-(m.a*m.d-m.b*m.c)))/\True)/\A (((-4611686018427387904:Int)<=(-1:Int)*((-16777216:Int)*m.c)/\(-1:Int)*((-16777216:Int)*m.c)<=(4611686018427387904:Int))/\(1:Int)<=(0:Int)-(m.a*m.d-m.b*m.c)/\(0:Int)-(m.a*m.d-m.b*m.c)<=(4611686018427387904:Int)))/\T3 (A ((-9223372036854775808:Int)<=(16777216:Int)*m.a/\(16777216:Int)*m.a<=(9223372036854775807:Int))/\(((A (J=J)/\A ((16777216:Int)*m.a=(16777216:Int)*m.a))/\(True/\A (J=J)/\A ((-1:Int)=(-1:Int)))/\(True/\A (J=J)/\A ((0:Int)-(m.a*m.d-m.b*m.c)=(0:Int)-(m.a*m.d-m.b*m.c)))/\True)/\A (((-4611686018427387904:Int)<=(-1:Int)*((16777216:Int)*m.a)/\(-1:Int)*((16777216:Int)*m.a)<=(4611686018427387904:Int))/\(1:Int)<=(0:Int)-(m.a*m.d-m.b*m.c)/\(0:Int)-(m.a*m.d-m.b*m.c)<=(4611686018427387904:Int)))/\T5 (A ((-9223372036854775808:Int)<=m.c*m.f/\m.c*m.f<=(9223372036854775807:Int))/\T4 (A ((-9223372036854775808:Int)<=m.d*m.e/\m.d*m.e<=(9223372036854775807:Int))/\A ((-9223372036854775808:Int)<=m.c*m.f-m.d*m.e/\m.c*m.f-m.d*m.e<=(9223372036854775807:Int))/\A ((-9223372036854775808:Int)<=(4096:Int)*(m.c*m.f-m.d*m.e)/\(4096:Int)*(m.c*m.f-m.d*m.e)<=(9223372036854775807:Int))/\(((A (J=J)/\A ((4096:Int)*(m.c*m.f-m.d*m.e)=(4096:Int)*(m.c*m.f-m.d*m.e)))/\(True/\A (J=J)/\A ((-1:Int)=(-1:Int)))/\(True/\A (J=J)/\A ((0:Int)-(m.a*m.d-m.b*m.c)=(0:Int)-(m.a*m.d-m.b*m.c)))/\True)/\A (((-4611686018427387904:Int)<=(-1:Int)*((4096:Int)*(m.c*m.f-m.d*m.e))/\(-1:Int)*((4096:Int)*(m.c*m.f-m.d*m.e))<=(4611686018427387904:Int))/\(1:Int)<=(0:Int)-(m.a*m.d-m.b*m.c)/\(0:Int)-(m.a*m.d-m.b*m.c)<=(4611686018427387904:Int)))/\T5 (A ((-9223372036854775808:Int)<=m.b*m.e/\m.b*m.e<=(9223372036854775807:Int))/\T4 (A ((-9223372036854775808:Int)<=m.a*m.f/\m.a*m.f<=(9223372036854775807:Int))/\A ((-9223372036854775808:Int)<=m.b*m.e-m.a*m.f/\m.b*m.e-m.a*m.f<=(9223372036854775807:Int))/\A ((-9223372036854775808:Int)<=(4096:Int)*(m.b*m.e-m.a*m.f)/\(4096:Int)*(m.b*m.e-m.a*m.f)<=(9223372036854775807:Int))/\(((A (J=J)/\A ((4096:Int)*(m.b*m.e-m.a*m.f)=(4096:Int)*(m.b*m.e-m.a*m.f)))/\(True/\A (J=J)/\A ((-1:Int)=(-1:Int)))/\(True/\A (J=J)/\A ((0:Int)-(m.a*m.d-m.b*m.c)=(0:Int)-(m.a*m.d-m.b*m.c)))/\True)/\A (((-4611686018427387904:Int)<=(-1:Int)*((4096:Int)*(m.b*m.e-m.a*m.f))/\(-1:Int)*((4096:Int)*(m.b*m.e-m.a*m.f))<=(4611686018427387904:Int))/\(1:Int)<=(0:Int)-(m.a*m.d-m.b*m.c)/\(0:Int)-(m.a*m.d-m.b*m.c)<=(4611686018427387904:Int)))/\T4 (((((((((True/\A (J=J)/\A (nr ((-1:Int)*((16777216:Int)*m.d)) ((0:Int)-(m.a*m.d-m.b*m.c))=nr ((-1:Int)*((16777216:Int)*m.d)) ((0:Int)-(m.a*m.d-m.b*m.c))))/\A (J=J)/\A (nr ((-1:Int)*((-16777216:Int)*m.b)) ((0:Int)-(m.a*m.d-m.b*m.c))=nr ((-1:Int)*((-16777216:Int)*m.b)) ((0:Int)-(m.a*m.d-m.b*m.c))))/\A (J=J)/\A (nr ((-1:Int)*((-16777216:Int)*m.c)) ((0:Int)-(m.a*m.d-m.b*m.c))=nr ((-1:Int)*((-16777216:Int)*m.c)) ((0:Int)-(m.a*m.d-m.b*m.c))))/\A (J=J)/\A (nr ((-1:Int)*((16777216:Int)*m.a)) ((0:Int)-(m.a*m.d-m.b*m.c))=nr ((-1:Int)*((16777216:Int)*m.a)) ((0:Int)-(m.a*m.d-m.b*m.c))))/\A (J=J)/\A (nr ((-1:Int)*((4096:Int)*(m.c*m.f-m.d*m.e))) ((0:Int)-(m.a*m.d-m.b*m.c))=nr ((-1:Int)*((4096:Int)*(m.c*m.f-m.d*m.e))) ((0:Int)-(m.a*m.d-m.b*m.c))))/\A (J=J)/\A (nr ((-1:Int)*((4096:Int)*(m.b*m.e-m.a*m.f))) ((0:Int)-(m.a*m.d-m.b*m.c))=nr ((-1:Int)*((4096:Int)*(m.b*m.e-m.a*m.f))) ((0:Int)-(m.a*m.d-m.b*m.c))))/\True)/\A True)/\True/\K (decide ((Go.Proofs.YthappngbapbkfaaGreat.Aff.Mat.mk (nr ((-1:Int)*((16777216:Int)*m.d)) ((0:Int)-(m.a*m.d-m.b*m.c))) (nr ((-1:Int)*((-16777216:Int)*m.b)) ((0:Int)-(m.a*m.d-m.b*m.c))) (nr ((-1:Int)*((-16777216:Int)*m.c)) ((0:Int)-(m.a*m.d-m.b*m.c))) (nr ((-1:Int)*((16777216:Int)*m.a)) ((0:Int)-(m.a*m.d-m.b*m.c))) (nr ((-1:Int)*((4096:Int)*(m.c*m.f-m.d*m.e))) ((0:Int)-(m.a*m.d-m.b*m.c))) (nr ((-1:Int)*((4096:Int)*(m.b*m.e-m.a*m.f))) ((0:Int)-(m.a*m.d-m.b*m.c)))).chk≠(0:Int))) (T3 ((True/\True)/\(True/\(((((True/\A (J=J)/\A ((0:Int)=(invM m).a))/\A (J=J)/\A ((0:Int)=(invM m).b))/\A (J=J)/\A ((0:Int)=(invM m).c))/\A (J=J)/\A ((0:Int)=(invM m).d))/\A (J=J)/\A ((0:Int)=(invM m).e))/\A (J=J)/\A ((0:Int)=(invM m).f))/\A (J=J)/\A ((10:Int)=invE m))) (T3 ((True/\True)/\(True/\(((((True/\A (J=J)/\A (nr ((-1:Int)*((16777216:Int)*m.d)) ((0:Int)-(m.a*m.d-m.b*m.c))=(invM m).a))/\A (J=J)/\A (nr ((-1:Int)*((-16777216:Int)*m.b)) ((0:Int)-(m.a*m.d-m.b*m.c))=(invM m).b))/\A (J=J)/\A (nr ((-1:Int)*((-16777216:Int)*m.c)) ((0:Int)-(m.a*m.d-m.b*m.c))=(invM m).c))/\A (J=J)/\A (nr ((-1:Int)*((16777216:Int)*m.a)) ((0:Int)-(m.a*m.d-m.b*m.c))=(invM m).d))/\A (J=J)/\A (nr ((-1:Int)*((4096:Int)*(m.c*m.f-m.d*m.e))) ((0:Int)-(m.a*m.d-m.b*m.c))=(invM m).e))/\A (J=J)/\A (nr ((-1:Int)*((4096:Int)*(m.b*m.e-m.a*m.f))) ((0:Int)-(m.a*m.d-m.b*m.c))=(invM m).f))/\A (J=J)/\A ((0:Int)=invE m))))))))))))) (T5 (A ((-9223372036854775808:Int)<=(16777216:Int)*m.d/\(16777216:Int)*m.d<=(9223372036854775807:Int))/\(((A (J=J)/\A ((16777216:Int)*m.d=(16777216:Int)*m.d))/\(True/\A (J=J)/\A ((1:Int)=(1:Int)))/\(True/\A (J=J)/\A (m.a*m.d-m.b*m.c=m.a*m.d-m.b*m.c))/\True)/\A (((-4611686018427387904:Int)<=(1:Int)*((16777216:Int)*m.d)/\(1:Int)*((16777216:Int)*m.d)<=(4611686018427387904:Int))/\(1:Int)<=m.a*m.d-m.b*m.c/\m.a*m.d-m.b*m.c<=(4611686018427387904:Int)))/\T3 (A ((-9223372036854775808:Int)<=(-16777216:Int)*m.b/\(-16777216:Int)*m.b<=(9223372036854775807:Int))/\(((A (J=J)/\A ((-16777216:Int)*m.b=(-16777216:Int)*m.b))/\(True/\A (J=J)/\A ((1:Int)=(1:Int)))/\(True/\A (J=J)/\A (m.a*m.d-m.b*m.c=m.a*m.d-m.b*m.c))/\True)/\A (((-4611686018427387904:Int)<=(1:Int)*((-16777216:Int)*m.b)/\(1:Int)*((-16777216:Int)*m.b)<=(4611686018427387904:Int))/\(1:Int)<=m.a*m.d-m.b*m.c/\m.a*m.d-m.b*m.c<=(4611686018427387904:Int)))/\T3 (A ((-9223372036854775808:Int)<=(-16777216:Int)*m.c/\(-16777216:Int)*m.c<=(9223372036854775807:Int))/\(((A (J=J)/\A ((-16777216:Int)*m.c=(-16777216:Int)*m.c))/\(True/\A (J=J)/\A ((1:Int)=(1:Int)))/\(True/\A (J=J)/\A (m.a*m.d-m.b*m.c=m.a*m.d-m.b*m.c))/\True)/\A (((-4611686018427387904:Int)<=(1:Int)*((-16777216:Int)*m.c)/\(1:Int)*((-16777216:Int)*m.c)<=(4611686018427387904:Int))/\(1:Int)<=m.a*m.d-m.b*m.c/\m.a*m.d-m.b*m.c<=(4611686018427387904:Int)))/\T3 (A ((-9223372036854775808:Int)<=(16777216:Int)*m.a/\(16777216:Int)*m.a<=(9223372036854775807:Int))/\(((A (J=J)/\A ((16777216:Int)*m.a=(16777216:Int)*m.a))/\(True/\A (J=J)/\A ((1:Int)=(1:Int)))/\(True/\A (J=J)/\A (m.a*m.d-m.b*m.c=m.a*m.d-m.b*m.c))/\True)/\A (((-4611686018427387904:Int)<=(1:Int)*((16777216:Int)*m.a)/\(1:Int)*((16777216:Int)*m.a)<=(4611686018427387904:Int))/\(1:Int)<=m.a*m.d-m.b*m.c/\m.a*m.d-m.b*m.c<=(4611686018427387904:Int)))/\T5 (A ((-9223372036854775808:Int)<=m.c*m.f/\m.c*m.f<=(9223372036854775807:Int))/\T4 (A ((-9223372036854775808:Int)<=m.d*m.e/\m.d*m.e<=(9223372036854775807:Int))/\A ((-9223372036854775808:Int)<=m.c*m.f-m.d*m.e/\m.c*m.f-m.d*m.e<=(9223372036854775807:Int))/\A ((-9223372036854775808:Int)<=(4096:Int)*(m.c*m.f-m.d*m.e)/\(4096:Int)*(m.c*m.f-m.d*m.e)<=(9223372036854775807:Int))/\(((A (J=J)/\A ((4096:Int)*(m.c*m.f-m.d*m.e)=(4096:Int)*(m.c*m.f-m.d*m.e)))/\(True/\A (J=J)/\A ((1:Int)=(1:Int)))/\(True/\A (J=J)/\A (m.a*m.d-m.b*m.c=m.a*m.d-m.b*m.c))/\True)/\A (((-4611686018427387904:Int)<=(1:Int)*((4096:Int)*(m.c*m.f-m.d*m.e))/\(1:Int)*((4096:Int)*(m.c*m.f-m.d*m.e))<=(4611686018427387904:Int))/\(1:Int)<=m.a*m.d-m.b*m.c/\m.a*m.d-m.b*m.c<=(4611686018427387904:Int)))/\T5 (A ((-9223372036854775808:Int)<=m.b*m.e/\m.b*m.e<=(9223372036854775807:Int))/\T4 (A ((-9223372036854775808:Int)<=m.a*m.f/\m.a*m.f<=(9223372036854775807:Int))/\A ((-9223372036854775808:Int)<=m.b*m.e-m.a*m.f/\m.b*m.e-m.a*m.f<=(9223372036854775807:Int))/\A ((-9223372036854775808:Int)<=(4096:Int)*(m.b*m.e-m.a*m.f)/\(4096:Int)*(m.b*m.e-m.a*m.f)<=(9223372036854775807:Int))/\(((A (J=J)/\A ((4096:Int)*(m.b*m.e-m.a*m.f)=(4096:Int)*(m.b*m.e-m.a*m.f)))/\(True/\A (J=J)/\A ((1:Int)=(1:Int)))/\(True/\A (J=J)/\A (m.a*m.d-m.b*m.c=m.a*m.d-m.b*m.c))/\True)/\A (((-4611686018427387904:Int)<=(1:Int)*((4096:Int)*(m.b*m.e-m.a*m.f))/\(1:Int)*((4096:Int)*(m.b*m.e-m.a*m.f))<=(4611686018427387904:Int))/\(1:Int)<=m.a*m.d-m.b*m.c/\m.a*m.d-m.b*m.c<=(4611686018427387904:Int)))/\T4 (((((((((True/\A (J=J)/\A (nr ((1:Int)*((16777216:Int)*m.d)) (m.a*m.d-m.b*m.c)=nr ((1:Int)*((16777216:Int)*m.d)) (m.a*m.d-m.b*m.c)))/\A (J=J)/\A (nr ((1:Int)*((-16777216:Int)*m.b)) (m.a*m.d-m.b*m.c)=nr ((1:Int)*((-16777216:Int)*m.b)) (m.a*m.d-m.b*m.c)))/\A (J=J)/\A (nr ((1:Int)*((-16777216:Int)*m.c)) (m.a*m.d-m.b*m.c)=nr ((1:Int)*((-16777216:Int)*m.c)) (m.a*m.d-m.b*m.c)))/\A (J=J)/\A (nr ((1:Int)*((16777216:Int)*m.a)) (m.a*m.d-m.b*m.c)=nr ((1:Int)*((16777216:Int)*m.a)) (m.a*m.d-m.b*m.c)))/\A (J=J)/\A (nr ((1:Int)*((4096:Int)*(m.c*m.f-m.d*m.e))) (m.a*m.d-m.b*m.c)=nr ((1:Int)*((4096:Int)*(m.c*m.f-m.d*m.e))) (m.a*m.d-m.b*m.c)))/\A (J=J)/\A (nr ((1:Int)*((4096:Int)*(m.b*m.e-m.a*m.f))) (m.a*m.d-m.b*m.c)=nr ((1:Int)*((4096:Int)*(m.b*m.e-m.a*m.f))) (m.a*m.d-m.b*m.c)))/\True)/\A True)/\True/\K (decide ((Go.Proofs.YthappngbapbkfaaGreat.Aff.Mat.mk (nr ((1:Int)*((16777216:Int)*m.d)) (m.a*m.d-m.b*m.c)) (nr ((1:Int)*((-16777216:Int)*m.b)) (m.a*m.d-m.b*m.c)) (nr ((1:Int)*((-16777216:Int)*m.c)) (m.a*m.d-m.b*m.c)) (nr ((1:Int)*((16777216:Int)*m.a)) (m.a*m.d-m.b*m.c)) (nr ((1:Int)*((4096:Int)*(m.c*m.f-m.d*m.e))) (m.a*m.d-m.b*m.c)) (nr ((1:Int)*((4096:Int)*(m.b*m.e-m.a*m.f))) (m.a*m.d-m.b*m.c))).chk≠(0:Int))) (T3 ((True/\True)/\(True/\(((((True/\A (J=J)/\A ((0:Int)=(invM m).a))/\A (J=J)/\A ((0:Int)=(invM m).b))/\A (J=J)/\A ((0:Int)=(invM m).c))/\A (J=J)/\A ((0:Int)=(invM m).d))/\A (J=J)/\A ((0:Int)=(invM m).e))/\A (J=J)/\A ((0:Int)=(invM m).f))/\A (J=J)/\A ((10:Int)=invE m))) (T3 ((True/\True)/\(True/\(((((True/\A (J=J)/\A (nr ((1:Int)*((16777216:Int)*m.d)) (m.a*m.d-m.b*m.c)=(invM m).a))/\A (J=J)/\A (nr ((1:Int)*((-16777216:Int)*m.b)) (m.a*m.d-m.b*m.c)=(invM m).b))/\A (J=J)/\A (nr ((1:Int)*((-16777216:Int)*m.c)) (m.a*m.d-m.b*m.c)=(invM m).c))/\A (J=J)/\A (nr ((1:Int)*((16777216:Int)*m.a)) (m.a*m.d-m.b*m.c)=(invM m).d))/\A (J=J)/\A (nr ((1:Int)*((4096:Int)*(m.c*m.f-m.d*m.e))) (m.a*m.d-m.b*m.c)=(invM m).e))/\A (J=J)/\A (nr ((1:Int)*((4096:Int)*(m.b*m.e-m.a*m.f))) (m.a*m.d-m.b*m.c)=(invM m).f))/\A (J=J)/\A ((0:Int)=invE m))))))))))))))))))))) (by kernel_rfl) ?_;rcases hm:m.ok with _ | _
 ·simp [ac9,ae4,hm,invM,invE,bB2 m hm]
 have cm:=bc6 m hm;obtain ⟨ma,mb,mc,md,me,mf⟩:=m.b31 hm;have p1:=aJ4 ma md;have p2:=aJ4 mb mc;have p3:=aJ4 mc mf;have p4:=aJ4 md me;have p5:=aJ4 mb me;have p6:=aJ4 ma mf;have eo:Mat.mk (over m (16777216*m.d)) (over m (-16777216*m.b)) (over m (-16777216*m.c)) (over m (16777216*m.a)) (over m (4096*(m.c*m.f-m.d*m.e))) (over m (4096*(m.b*m.e-m.a*m.f)))=ax8 m:=rfl;by_cases h0:m.a*m.d-m.b*m.c=0
 ·have h0':det m=0:=h0;have hE:invE m=8:=by unfold invE; rw [hm]; simp [h0']
  simp [ac9,ae4,cm,h0,invM,hE];omega
 have h0':det m≠0:=h0;by_cases hn:m.a*m.d-m.b*m.c<0
 ·have hs:sg (det m) = -1:=lg hn;have ha:ab (det m)=0-(m.a*m.d-m.b*m.c):=lg hn;have ov:∀ z,nr (-1*z) (0-(m.a*m.d-m.b*m.c))=over m z:=fun z=>by unfold over; rw [hs,ha]
  simp only [ov,eo];rcases ho:(ax8 m).ok with _ | _
  ·have hE:invE m=10:=by unfold invE; rw [hm,ho]; simp [h0']
   simp [ac9,ae4,cm,h0,hn,invM,hE,bB2 _ ho];repeat' (first | apply And.intro | intro _)
   all_goals omega
  ·have hE:invE m=0:=by unfold invE; rw [hm,ho]; simp [h0']
   simp [ac9,ae4,cm,h0,hn,invM,hE,bc6 _ ho];repeat' (first | apply And.intro | intro _)
   all_goals first | omega | rfl
 ·have hs:sg (det m)=1:=lb hn;have ha:ab (det m)=m.a*m.d-m.b*m.c:=lb hn;have ov:∀ z,nr (1*z) (m.a*m.d-m.b*m.c)=over m z:=fun z=>by unfold over; rw [hs,ha]
  simp only [ov,eo];rcases ho:(ax8 m).ok with _ | _
  ·have hE:invE m=10:=by unfold invE; rw [hm,ho]; simp [h0']
   simp [ac9,ae4,cm,h0,hn,invM,hE,bB2 _ ho];repeat' (first | apply And.intro | intro _)
   all_goals omega
  ·have hE:invE m=0:=by unfold invE; rw [hm,ho]; simp [h0']
   simp [ac9,ae4,cm,h0,hn,invM,hE,bc6 _ ho];repeat' (first | apply And.intro | intro _)
   all_goals first | omega | rfl
theorem b60 {m:Mat}(h:invE m=0):m.ok=true/\det m≠0/\(ax8 m).ok=true/\invM m=ax8 m:=by
 have hx:invM m=ax8 m:=by unfold invM; rw [lg h]
 unfold invE at h;by_cases h2:det m=0<;>rcases h1:m.ok with _ | _<;>rcases h3:(ax8 m).ok with _ | _<;>simp [h1,h2,h3] at h ⊢
 exact hx
end Afi
namespace Sx
open Go.RowKit
inductive NP:Type
 | arg (i:Nat)
 | part (i j:Nat)
 | cell (o j:Nat)
 | hole (o:Nat)
def nameOf:SV->Option Nat
 | .own k _=>some k
 | .osl k _=>some k
 | .ownAt k _ _ _ _=>some k
 | .omap k=>some k
 | _=>none
def subS (j:Nat):SV->Option SV
 | .fn _ n g=>if j<n then some (g j) else none
 | .agg n g=>if j<n then some (g j) else none
 | .slP n g=>if j<n then some (g j) else none
 | _=>none
def nameAt (H:List SO) (args:List SV) (ks:List Nat):NP->Option Nat
 | .arg i=>if i<args.length then nameOf (args.getD i .any) else none
 | .part i j=>if i<args.length then match subS j (args.getD i .any) with
  | some s=>nameOf s
  | none=>none
  else none
 | .cell o j=>match ks[o]? with
  | some k=>match H.getD k .dead with
   | .cells n g _=>if j<n then nameOf (g j) else none
   | _=>none
  | none=>none
 | .hole o=>match ks[o]? with
  | some k=>match H.getD k .dead with
   | .deep _ _ _ _ _ _ _ _ _ ho=>match ho with
    | some q=>nameOf q.2
    | none=>none
   | _=>none
  | none=>none
def a08 (H:List SO) (ks:List Nat):NP->Prop
 | .hole o=>match ks[o]? with
  | some k=>match H.getD k .dead with
   | .deep _ len _ _ _ _ _ _ _ ho=>match ho with
    | some q=>Ask (q.1<len)
    | none=>True
   | _=>True
  | none=>True
 | _=>True
def by6 (H:List SO) (ks:List Nat):List NP->Prop
 | []=>True
 | p::r=>a08 H ks p/\by6 H ks r
def bb0:List NP->Bool
 | []=>false
 | .hole _::_=>true
 | _::r=>bb0 r
def bV6 (os:List SO):NP->Prop
 | .hole o=>match os[o]? with
  | some so=>match so with
   | .deep _ len _ _ _ _ _ _ _ ho=>match ho with
    | some q=>Ask (q.1<len)
    | none=>True
   | _=>True
  | none=>True
 | _=>True
def aQ0 (os:List SO):List NP->Prop
 | []=>True
 | p::r=>bV6 os p/\aQ0 os r
def al6 (os:List SO) (ps:List NP) (a:Prop):Prop:=match bb0 ps with
 | true=>a/\aQ0 os ps
 | false=>a
theorem aq5 {os:List SO}:∀ {ps:List NP},bb0 ps=false->aQ0 os ps
 | [],_=>trivial
 | .arg _::r,h=>⟨trivial,aq5 (ps:=r) h⟩
 | .part _ _::r,h=>⟨trivial,aq5 (ps:=r) h⟩
 | .cell _ _::r,h=>⟨trivial,aq5 (ps:=r) h⟩
 | .hole _::r,h=>by cases h
theorem ap6 {os:List SO}{ps:List NP}{a:Prop}(h:al6 os ps a):a/\aQ0 os ps:=by
 unfold al6 at h;split at h
 ·exact h
 ·rename_i hn; exact ⟨h,aq5 hn⟩
theorem bH7 {H:List SO}{ks:List Nat}{p:NP}(h:bV6 (ks.map fun k=>H.getD k .dead) p):a08 H ks p:=by
 cases p with
 | hole o=>
  simp only [bV6,lR] at h;simp only [a08];cases hk:ks[o]? with
  | none=>trivial
  | some k=>
   rw [hk] at h;simp only [lD] at h;cases hso:H.getD k .dead with
   | deep ver len n c m p g T T' ho=>
    rw [hso] at h;simp only [hso];cases ho with
    | none=>trivial
    | some q=>exact h
   | _=>simp only [hso]
 | _=>trivial
theorem aK1 {H:List SO}{ks:List Nat}:∀ {ps:List NP},aQ0 (ks.map fun k=>H.getD k .dead) ps->by6 H ks ps
 | [],_=>trivial
 | p::r,h=>⟨bH7 h.1,aK1 h.2⟩
def al9 (H:List SO) (args:List SV):List NP->List Nat->Option (List Nat)
 | [],ks=>some ks
 | p::r,ks=>match nameAt H args ks p with
  | some k=>al9 H args r (ks++[k])
  | none=>none
def posOf:List Nat->Nat->Option Nat
 | [],_=>none
 | a::r,k=>match Nat.beq a k with
  | true=>some 0
  | false=>match posOf r k with
   | some i=>some (i+1)
   | none=>none
def au6:List Nat->Bool
 | []=>true
 | a::r=>(posOf r a).isNone&&au6 r
theorem af6:∀ {ks:List Nat}{k i:Nat},posOf ks k=some i->ks[i]?=some k
 | [],k,i,h=>by cases h
 | a::r,k,i,h=>by
  simp only [posOf] at h;split at h
  ·rename_i hb;cases h;rw [lx hb]; rfl
  ·split at h
   ·rename_i j hj;cases h;rw [List.getElem?_cons_succ];exact af6 hj
   ·cases h
theorem aA6:∀ {ks:List Nat}{k:Nat},posOf ks k=none->k ∉ ks
 | [],k,_=>lJ
 | a::r,k,h=>by
  simp only [posOf] at h;split at h
  ·cases h
  ·rename_i hb;split at h
   ·cases h
   ·rename_i hr;intro hm;rcases lP.1 hm with rfl | hm
    ·rw [Nat.beq_refl] at hb; cases hb
    ·exact aA6 hr hm
theorem bl7 {ks:List Nat}{k:Nat}(h:k∈ks):∃ i,posOf ks k=some i:=by
 cases hp:posOf ks k with
 | none=>exact absurd h (aA6 hp)
 | some i=>exact ⟨i,rfl⟩
theorem ax1 {ks:List Nat}{k i:Nat}(h:posOf ks k=some i):k∈ks:=xi (af6 h)
theorem aq0:∀ {ks:List Nat}{k i:Nat},au6 ks=true->ks[i]?=some k->posOf ks k=some i
 | [],k,i,_,h=>by cases h
 | a::r,k,0,_,h=>by
  simp only [uo,Option.some.injEq] at h;subst h;simp only [posOf,Nat.beq_refl]
 | a::r,k,i+1,hn,h=>by
  simp only [au6,lr] at hn;have h':r[i]?=some k:=h;have hne:Nat.beq a k=false:=by
   cases hb:Nat.beq a k with
   | false=>rfl
   | true=>
    have:=lx hb
    subst this;obtain ⟨j,hj⟩:=bl7 (xi h');rw [hj] at hn;simp at hn
  simp only [posOf,hne,aq0 hn.2 h']
theorem bu6 {ks:List Nat}{k k' i:Nat}(h:posOf ks k=some i) (h':posOf ks k'=some i):k=k':=by
 have h1:=af6 h;rw [af6 h'] at h1;exact (Option.some.inj h1).symm
def verO:SO->Nat
 | .row v ..=>v
 | .srow v ..=>v
 | .deep v ..=>v
 | _=>0
def ar2:SO->Bool
 | .dead=>false
 | .cus _=>false
 | _=>true
def sml (os:List SO) (ks:List Nat):SV->SV
 | .own k off=>match posOf ks k with
  | some i=> .own i off
  | none=> .any
 | .osl k ver=>match posOf ks k with
  | some i=>match Nat.beq ver (verO (os.getD i .dead)) with
   | true=> .osl i 0
   | false=> .any
  | none=> .any
 | .ownAt k ver a n off=>match posOf ks k with
  | some i=>match Nat.beq ver (verO (os.getD i .dead)) with
   | true=> .ownAt i 0 a n off
   | false=> .any
  | none=> .any
 | .pin ..=> .any
 | .part ..=> .any
 | .omap k=>match posOf ks k with
  | some i=>match Nat.beq (verO (os.getD i .dead)) 0 with
   | true=> .omap i
   | false=> .any
  | none=> .any
 | .win k ver n lo len=>match posOf ks k with
  | some i=>match Nat.beq ver (verO (os.getD i .dead)) with
   | true=> .win i 0 n lo len
   | false=> .any
  | none=> .any
 | .agg n g=> .agg n (fun i=>sml os ks (g i))
 | .tup n g=> .tup n (fun i=>sml os ks (g i))
 | .fn f n g=> .fn f n (fun i=>sml os ks (g i))
 | .fnb f n g=> .fnb f n (fun i=>sml os ks (g i))
 | .slP n g=> .slP n (fun i=>sml os ks (g i))
 | .refP g=> .refP (fun i=>sml os ks (g i))
 | .ifc T g=> .ifc T (fun i=>sml os ks (g i))
 | s=>s
def smlO (os:List SO) (ks:List Nat):SO->SO
 | .cells n g T=> .cells n (fun i=>sml os ks (g i)) T
 | .row _ len n g T=> .row 0 len n g T
 | .srow _ len n g=> .srow 0 len n g
 | .deep _ len n c m p g T T' ho=> .deep 0 len n c m p g T T' (bo1 (sml os ks) ho)
 | .mps kd has c m p T' ho=> .mps kd has c m p T' (aK2 (sml os ks) ho)
 | s=>s
def big (os:List SO) (ks:List Nat):SV->SV
 | .own i off=>match ks[i]? with
  | some k=> .own k off
  | none=> .any
 | .osl i ver=>match ks[i]? with
  | some k=> .osl k (verO (os.getD i .dead)+ver)
  | none=> .any
 | .ownAt i ver a n off=>match ks[i]? with
  | some k=> .ownAt k (verO (os.getD i .dead)+ver) a n off
  | none=> .any
 | .pin ..=> .any
 | .part ..=> .any
 | .omap i=>match ks[i]? with
  | some k=> .omap k
  | none=> .any
 | .win i ver n lo len=>match ks[i]? with
  | some k=> .win k (verO (os.getD i .dead)+ver) n lo len
  | none=> .any
 | .agg n g=> .agg n (fun i=>big os ks (g i))
 | .tup n g=> .tup n (fun i=>big os ks (g i))
 | .fn f n g=> .fn f n (fun i=>big os ks (g i))
 | .fnb f n g=> .fnb f n (fun i=>big os ks (g i))
 | .slP n g=> .slP n (fun i=>big os ks (g i))
 | .refP g=> .refP (fun i=>big os ks (g i))
 | .ifc T g=> .ifc T (fun i=>big os ks (g i))
 | s=>s
def bigO (os:List SO) (ks:List Nat) (v0:Nat):SO->SO
 | .cells n g T=> .cells n (fun i=>big os ks (g i)) T
 | .row ver len n g T=> .row (v0+ver) len n g T
 | .srow ver len n g=> .srow (v0+ver) len n g
 | .deep ver len n c m p g T T' ho=> .deep (v0+ver) len n c m p g T T' (bo1 (big os ks) ho)
 | .mps kd has c m p T' ho=> .mps kd has c m p T' (aK2 (big os ks) ho)
 | s=>s
def ah8 (os:List SO) (ks:List Nat) (post:List SO):List Nat->Nat->List (Nat×SO)
 | [],_=>[]
 | k::r,i=>(k,bigO os ks (verO (os.getD i .dead)) (post.getD i .dead))::ah8 os ks post r (i+1)
theorem aM2 {os:List SO}{ks:List Nat}{post:List SO}:∀ (r:List Nat) (i:Nat) (H0:List SO),au6 r=true->(∀ k∈r,k<H0.length)->
  (ad3 H0 (ah8 os ks post r i)).length=H0.length/\∀ k,(ad3 H0 (ah8 os ks post r i)).getD k .dead=match posOf r k with
   | some j=>bigO os ks (verO (os.getD (i+j) .dead)) (post.getD (i+j) .dead)
   | none=>H0.getD k .dead
 | [],i,H0,_,_=>⟨rfl,fun _=>rfl⟩
 | a::r,i,H0,hn,hk=>by
  simp only [au6,lr] at hn;obtain ⟨h1,h2⟩:=aM2 (post:=post) r (i+1) (H0.set a (bigO os ks (verO (os.getD i .dead)) (post.getD i .dead))) hn.2 (fun k hm=>by rw [uc]; exact hk k (lW _ hm));have e:ad3 H0 (ah8 os ks post (a::r) i)=ad3 (H0.set a (bigO os ks (verO (os.getD i .dead)) (post.getD i .dead))) (ah8 os ks post r (i+1)):=rfl;rw [e];refine ⟨by rw [h1,uc],fun k=>?_⟩;rw [h2 k];simp only [posOf];cases hb:Nat.beq a k with
  | true=>
   have:=lx hb
   subst this;have hr:posOf r a=none:=by simpa using hn.1
   rw [hr];simp only [lX];exact ab1 (hk a lO)
  | false=>
   have hne:k≠a:=fun hc=>by subst hc; rw [Nat.beq_refl] at hb; cases hb
   cases hr:posOf r k with
   | some j=>simp only; rw [show i+1+j=i+(j+1) by omega]
   | none=>simp only; exact aa1 hne
def smlE (E:Env) (ks:List Nat):Env:=fun i=>match ks[i]? with
 | some k=>match E k with
  | some (.blk b)=>some (.blk b)
  | some (.slc _ v us)=>some (.slc 0 v us)
  | none=>none
 | none=>none
theorem aT0 {E:Env}{ks:List Nat}{k i b:Nat}(h:posOf ks k=some i) (he:E k=some (.blk b)):smlE E ks i=some (.blk b):=by
 simp only [smlE,af6 h,he]
theorem at2 {E:Env}{ks:List Nat}{k i ver:Nat}{v:Value}{us:Nat->Option Nat}(h:posOf ks k=some i) (he:E k=some (.slc ver v us)):smlE E ks i=some (.slc 0 v us):=by
 simp only [smlE,af6 h,he]
theorem am8 {E:Env}{ks:List Nat}{i:Nat}{e:EI}(h:smlE E ks i=some e):∃ k,ks[i]?=some k/\((∃ b,E k=some (.blk b)/\e = .blk b)\/∃ ver v us,E k=some (.slc ver v us)/\e = .slc 0 v us):=by
 simp only [smlE] at h;split at h
 ·rename_i k hk;split at h
  ·rename_i b hb; cases h; exact ⟨k,hk,.inl ⟨b,hb,rfl⟩⟩
  ·rename_i ver v us hv; cases h; exact ⟨k,hk,.inr ⟨ver,v,us,hv,rfl⟩⟩
  ·cases h
 ·cases h
def bY0 (os:List SO) (E:Env) (ks:List Nat):Prop:=∀ i k,ks[i]?=some k->∀ ver v us,E k=some (.slc ver v us)->verO (os.getD i .dead)=ver
theorem b81 {w:World}{X X':Nat->Prop}(hx:∀ b,X' b->X b) {E E':Env}{len n:Nat}{g:Nat->Nat->SV}{v:Value}(h:R w X E (.slN len n g) v):R w X' E' (.slN len n g) v:=by
 cases h with
 | slN hr=>
  refine .slN ?_;cases hr with
  | sl0=>exact .sl0
  | sl hb hX hc hl ho hr=>exact .sl hb (fun hc=>hX (hx _ hc)) hc hl ho fun i j hi hj=>(hr i j hi hj).mono (fun _ _ _=>rfl) (fun b _ hb=>hx b hb) (Env.le_refl _)
theorem MpsOK.over {w X X' E E' us kd has c m p T' ho es} (d:MpsOK w X E us kd has c m p T' ho es) (hx:∀ b,X' b->X b) (f:SV->SV) (hf:∀ s u,R w X E s u->R w X' E' (f s) u):MpsOK w X' E' us kd has c m p T' (aK2 f ho) es:=by
 have weak:∀ {s:SV}{v:Value},R w X E0 s v->R w X' E0 s v:=fun h=>h.mono (fun _ _ _=>rfl) (fun b _ hb=>hx b hb) (Env.le_refl _)
 refine ⟨d.map,fun y e he hke hh=>?_,d.gone,fun hy sv fl hho=>?_,fun y y' b q1 q2=>d.inj y y' b (by rwa [ae5] at q1) (by rwa [ae5] at q2)⟩
 ·rw [ae5] at hh;obtain ⟨q1,ys,q2,q3⟩:=d.inn y e he hke hh;exact ⟨q1,ys,q2,fun i' j hi' hj=>⟨(q3 i' j hi' hj).1,weak (q3 i' j hi' hj).2⟩⟩
 ·cases ho with
  | none=>cases hho
  | some q=>
   cases hho;obtain ⟨g1,g2,g3⟩:=d.out q.1 q.2.1 q.2.2 rfl;exact ⟨g1,fun e he hke=>hf _ _ (g2 e he hke),fun hz=>hf _ _ (g3 hz)⟩
theorem bJ7.over {w X X' kk tot has val es} (d:bJ7 w X kk tot has val es) (hx:∀ b,X' b->X b):bJ7 w X' kk tot has val es:=by
 have weak:∀ {s:SV}{v:Value},R w X E0 s v->R w X' E0 s v:=fun h=>h.mono (fun _ _ _=>rfl) (fun b _ hb=>hx b hb) (Env.le_refl _)
 exact ⟨d.1,fun l e hl he hk=>weak (d.2.1 l e hl he hk),fun ht l hl hh=>weak (d.2.2 ht l hl hh)⟩
theorem bd3 {w X E ver b us} {so:SO}(h:EIok w X E (.slc ver (.map (some b)) us) so) (ha:ar2 so=true):ver=0:=by
 cases so with
 | dead=>cases ha
 | cells=>exact h.elim
 | scells=>exact h.elim
 | row=>obtain ⟨_,xs,ho,_⟩:=h; rcases ho with ⟨a,h1,_⟩ | ⟨b',cap,cur,h1,_⟩<;>cases h1
 | srow=>obtain ⟨_,hr⟩:=h; cases hr
 | deep=>obtain ⟨_,xs,d⟩:=h; rcases d.own with ⟨a,h1,_⟩ | ⟨b',cap,cur,h1,_⟩<;>cases h1
 | mpi=>exact h.1
 | mps=>exact h.1
 | cus=>cases ha
theorem bd2 {w:World}{X X':Nat->Prop}(hx:∀ b,X' b->X b) {os:List SO}{ks:List Nat}{E:Env}(hv:bY0 os E ks) {s:SV}{v:Value}(h:R w X E s v):R w X' (smlE E ks) (sml os ks s) v:=by
 induction s generalizing v with
 | any=>exact .any
 | int=>cases h; exact .int
 | bool=>cases h; exact .bool
 | lit=>cases h; exact .lit
 | str=>cases h; exact .str
 | nilfn=>cases h; exact .nilfn
 | cap0=>cases h; exact .cap0
 | fn f n g ih=>cases h with | fn hs hr=>exact .fn hs fun i hi=>ih i (hr i hi)
 | fnb f n g ih=>cases h with | fnb hs hr=>exact .fnb hs fun i hi=>ih i (hr i hi)
 | agg n g ih=>cases h with | agg hs ho hr=>exact .agg hs ho fun i hi=>ih i (hr i hi)
 | tup n g ih=>cases h with | tup hs hr=>exact .tup hs fun i hi=>ih i (hr i hi)
 | sl len n g ih=>
  cases h with
  | sl0=>exact .sl0
  | sl hb hX hc hl ho hr=>exact .sl hb (fun hc=>hX (hx _ hc)) hc hl ho fun i j hi hj=>(hr i j hi hj).mono (fun _ _ _=>rfl) (fun b _ hb=>hx b hb) (Env.le_refl _)
 | ref n g ih=>cases h with | ref hb hX hc ho hr=>exact .ref hb (fun hc=>hX (hx _ hc)) hc ho fun j hj=>(hr j hj).mono (fun _ _ _=>rfl) (fun b _ hb=>hx b hb) (Env.le_refl _)
 | own k off=>
  cases h with
  | own he=>
   simp only [sml];split
   ·rename_i i hi; exact .own (aT0 hi he)
   ·exact .any
 | osl k ver=>
  simp only [sml];split
  ·rename_i i hi;split
   ·rename_i hb;have hbb:=lx hb;cases h with
    | osl he hs=>exact .osl (at2 hi he) hs
    | oslOld he hl hs=>
     have:=hv i k (af6 hi) _ _ _ he
     omega
   ·exact .any
  ·exact .any
 | ownAt k ver a n off=>
  simp only [sml];split
  ·rename_i i hi;split
   ·rename_i hb;have hbb:=lx hb;cases h with
    | ownAt he=>exact .ownAt (at2 hi he)
    | ownAtOld he hl hs=>
     have:=hv i k (af6 hi) _ _ _ he
     omega
   ·exact .any
  ·exact .any
 | con=>cases h; exact .con
 | pin=>exact .any
 | part=>exact .any
 | slP n g ih=>cases h with | slP hb hX hc hl ho hr=>exact .slP hb (fun hc=>hX (hx _ hc)) hc hl ho fun i hi=>ih i (hr i hi)
 | refP g ih=>cases h with | refP hb hX hc ho hr=>exact .refP hb (fun hc=>hX (hx _ hc)) hc ho (ih 0 hr)
 | ifc T g ih=>cases h with | ifc ho hr=>exact .ifc ho (ih 0 hr)
 | omap k=>
  simp only [sml];split
  ·rename_i i hi;split
   ·rename_i hb;have hbb:=lx hb;cases h with
    | omap he=>exact .omap (at2 hi he)
    | omapOld he hl=>
     have:=hv i k (af6 hi) _ _ _ he
     omega
   ·exact .any
  ·exact .any
 | nilsl=>cases h; exact .nilsl
 | slN=>exact b81 hx h
 | win k ver n lo len=>
  simp only [sml];split
  ·rename_i i hi;split
   ·rename_i hb;have hbb:=lx hb;cases h with
    | win he hl ha h0=>exact .win (at2 hi he) hl ha h0
    | winOld he hl hs=>
     have:=hv i k (af6 hi) _ _ _ he
     omega
   ·exact .any
  ·exact .any
theorem aO1 {w:World}{X X':Nat->Prop}(hx:∀ b,X' b->X b) {os:List SO}{ks:List Nat}{Es E':Env}
  (h1:∀ i k b,ks[i]?=some k->Es i=some (.blk b)->E' k=some (.blk b)) (h2:∀ i k ver v us,ks[i]?=some k->Es i=some (.slc ver v us)->E' k=some (.slc (verO (os.getD i .dead)+ver) v us))
  {s:SV}{v:Value}(h:R w X Es s v):R w X' E' (big os ks s) v:=by
 induction s generalizing v with
 | any=>exact .any
 | int=>cases h; exact .int
 | bool=>cases h; exact .bool
 | lit=>cases h; exact .lit
 | str=>cases h; exact .str
 | nilfn=>cases h; exact .nilfn
 | cap0=>cases h; exact .cap0
 | fn f n g ih=>cases h with | fn hs hr=>exact .fn hs fun i hi=>ih i (hr i hi)
 | fnb f n g ih=>cases h with | fnb hs hr=>exact .fnb hs fun i hi=>ih i (hr i hi)
 | agg n g ih=>cases h with | agg hs ho hr=>exact .agg hs ho fun i hi=>ih i (hr i hi)
 | tup n g ih=>cases h with | tup hs hr=>exact .tup hs fun i hi=>ih i (hr i hi)
 | sl len n g ih=>
  cases h with
  | sl0=>exact .sl0
  | sl hb hX hc hl ho hr=>exact .sl hb (fun hc=>hX (hx _ hc)) hc hl ho fun i j hi hj=>(hr i j hi hj).mono (fun _ _ _=>rfl) (fun b _ hb=>hx b hb) (Env.le_refl _)
 | ref n g ih=>cases h with | ref hb hX hc ho hr=>exact .ref hb (fun hc=>hX (hx _ hc)) hc ho fun j hj=>(hr j hj).mono (fun _ _ _=>rfl) (fun b _ hb=>hx b hb) (Env.le_refl _)
 | own i off=>
  cases h with
  | own he=>
   simp only [big];split
   ·rename_i k hk; exact .own (h1 _ _ _ hk he)
   ·exact .any
 | osl i ver=>
  simp only [big];split
  ·rename_i k hk;cases h with
   | osl he hs=>exact .osl (h2 _ _ _ _ _ hk he) hs
   | oslOld he hl hs=>exact .oslOld (h2 _ _ _ _ _ hk he) (by omega) hs
  ·exact .any
 | ownAt i ver a n off=>
  simp only [big];split
  ·rename_i k hk;cases h with
   | ownAt he=>exact .ownAt (h2 _ _ _ _ _ hk he)
   | ownAtOld he hl hs=>exact .ownAtOld (h2 _ _ _ _ _ hk he) (by omega) hs
  ·exact .any
 | con=>cases h; exact .con
 | pin=>exact .any
 | part=>exact .any
 | slP n g ih=>cases h with | slP hb hX hc hl ho hr=>exact .slP hb (fun hc=>hX (hx _ hc)) hc hl ho fun i hi=>ih i (hr i hi)
 | refP g ih=>cases h with | refP hb hX hc ho hr=>exact .refP hb (fun hc=>hX (hx _ hc)) hc ho (ih 0 hr)
 | ifc T g ih=>cases h with | ifc ho hr=>exact .ifc ho (ih 0 hr)
 | omap i=>
  simp only [big];split
  ·rename_i k hk;cases h with
   | omap he=>
    have:=h2 _ _ _ _ _ hk he
    rw [lX] at this;cases hz:verO (os.getD i .dead) with
    | zero=>rw [hz] at this; exact .omap this
    | succ n=>rw [hz] at this; exact .omapOld this (xG n)
   | omapOld he hl=>exact .omapOld (h2 _ _ _ _ _ hk he) (by omega)
  ·exact .any
 | nilsl=>cases h; exact .nilsl
 | slN=>exact b81 hx h
 | win i ver n lo len=>
  simp only [big];split
  ·rename_i k hk;cases h with
   | win he hl ha h0=>exact .win (h2 _ _ _ _ _ hk he) hl ha h0
   | winOld he hl hs=>exact .winOld (h2 _ _ _ _ _ hk he) (by omega) hs
  ·exact .any
def aa5 (H:List SO) (ks:List Nat):List SO:=ks.map fun k=>H.getD k .dead
theorem bm6 {H:List SO}{ks:List Nat}{i k:Nat}(h:ks[i]?=some k):(aa5 H ks).getD i .dead=H.getD k .dead:=by
 rw [aa5,la,lR,h]; rfl
theorem Rep.aX1 {w0 X0 H E w} (h:Rep w0 X0 H E w) {ks:List Nat}(ha:(aa5 H ks).all ar2=true):bY0 (aa5 H ks) E ks:=by
 intro i k hk ver v us he;have hok:=h.ok k _ he;rw [bm6 hk];have hal:ar2 (H.getD k .dead)=true:=lY.1 ha _ (xx.2 ⟨k,xi hk,rfl⟩);generalize H.getD k .dead=so at *
 cases so with
 | dead=>cases hal
 | cells=>exact hok.elim
 | scells=>exact hok.elim
 | row=>exact hok.1.symm
 | srow=>exact hok.1.symm
 | deep=>exact hok.1.symm
 | mpi=>exact hok.1.symm
 | mps=>exact hok.1.symm
 | cus=>cases hal
theorem ah9 {w X E s v k} (h:R w X E s v) (hn:nameOf s=some k):E k≠none:=by
 cases h<;>simp only [nameOf,reduceCtorEq,Option.some.injEq] at hn
 all_goals (subst hn; rename_i he; first | (rw [he]; simp; done) | skip)
 all_goals (intro hc; simp_all)
theorem aZ9 {w0 X0 H E w} (h:Rep w0 X0 H E w) {args:List SV}{vals:Array Value}(ha:au3 w (Xo X0 E H) E args vals) {ks:List Nat}(hk:∀ k∈ks,E k≠none) {p:NP}(hp:a08 H ks p) {k:Nat}(hn:nameAt H args ks p=some k):E k≠none:=by
 cases p with
 | arg i=>
  simp only [nameAt] at hn;obtain ⟨hi,hn⟩:=ax7 hn;exact ah9 (ha.2 i hi) hn
 | part i j=>
  simp only [nameAt] at hn;obtain ⟨hi,hn⟩:=ax7 hn;have hr:=ha.2 i hi;generalize args.getD i .any=s at hr hn;generalize vals.getD i undef=v at hr;cases hr<;>simp only [subS,reduceCtorEq] at hn
  ·rename_i n g vs hs hr;by_cases hj:j<n
   ·rw [lg hj] at hn; exact ah9 (hr j hj) hn
   ·rw [lb hj] at hn; cases hn
  ·rename_i n g vs hs ho hr;by_cases hj:j<n
   ·rw [lg hj] at hn; exact ah9 (hr j hj) hn
   ·rw [lb hj] at hn; cases hn
  ·rename_i n g b o cap c T fr hb hX hc hl ho hr;by_cases hj:j<n
   ·rw [lg hj] at hn; exact ah9 (hr j hj) hn
   ·rw [lb hj] at hn; cases hn
 | cell o j=>
  simp only [nameAt] at hn;split at hn
  case h_2=>cases hn
  rename_i k0 hk0;have hkn:=hk k0 (xi hk0);split at hn
  case h_2=>cases hn
  rename_i n g T hso;obtain ⟨hj,hn⟩:=ax7 hn;cases he:E k0 with
  | none=>exact absurd he hkn
  | some e=>
   have hok:=h.ok k0 e he;rw [hso] at hok;cases e with
   | slc=>exact hok.elim
   | blk b=>
    obtain ⟨vs,_,_,h3⟩:=hok;exact ah9 (h3 j hj).2 hn
 | hole o=>
  simp only [nameAt] at hn;split at hn
  case h_2=>cases hn
  rename_i k0 hk0;have hkn:=hk k0 (xi hk0);split at hn
  case h_2=>cases hn
  rename_i ver len n c m p g T T' ho hso;split at hn
  case h_2=>cases hn
  rename_i q;simp only [a08,hk0,hso] at hp;cases he:E k0 with
  | none=>exact absurd he hkn
  | some e=>
   have hok:=h.ok k0 e he;rw [hso] at hok;cases e with
   | blk b=>exact hok.elim
   | slc ver' v us=>
    obtain ⟨_,xs,d⟩:=hok;exact ah9 (d.out q.1 q.2 hp.out (by unfold hoAt; simp)).2 hn
theorem aJ3 {H:List SO}{args:List SV}:∀ (ps:List NP) (ks ks':List Nat),al9 H args ps ks=some ks'->∀ (o k:Nat),ks[o]?=some k->ks'[o]?=some k
 | [],ks,ks',hn,o,k,h=>by simp only [al9,Option.some.injEq] at hn; subst hn; exact h
 | p::r,ks,ks',hn,o,k,h=>by
  simp only [al9] at hn;split at hn
  case h_2=>cases hn
  exact aJ3 r _ ks' hn o k (by rw [xf (lU.1 h).1]; exact h)
theorem by7 {H:List SO}{ks ks':List Nat}{p:NP}(h:∀ (o k:Nat),ks[o]?=some k->ks'[o]?=some k) (hp:a08 H ks' p):a08 H ks p:=by
 cases p with
 | hole o=>
  simp only [a08] at hp ⊢;cases hk:ks[o]? with
  | none=>trivial
  | some k=>rw [h o k hk] at hp; exact hp
 | _=>trivial
theorem aq3 {w0 X0 H E w} (h:Rep w0 X0 H E w) {args:List SV}{vals:Array Value}(ha:au3 w (Xo X0 E H) E args vals):∀ (ps:List NP) (ks ks':List Nat),(∀ k∈ks,E k≠none)->by6 H ks' ps->al9 H args ps ks=some ks'->(∀ k∈ks',E k≠none)/\ks'.length=ks.length+ps.length
 | [],ks,ks',hk,_,hn=>by simp only [al9,Option.some.injEq] at hn; subst hn; exact ⟨hk,rfl⟩
 | p::r,ks,ks',hk,hq,hn=>by
  simp only [al9] at hn;split at hn
  case h_2=>cases hn
  rename_i k hk1;obtain ⟨h1,h2⟩:=aq3 h ha r (ks++[k]) ks' (fun k' hm=>by
   rcases xa.1 hm with hm | hm
   ·exact hk k' hm
   ·rw [lG.1 hm]; exact aZ9 h ha hk (by7 (fun o k' h'=>aJ3 r _ ks' hn o k' (by rw [xf (lU.1 h').1]; exact h')) hq.1) hk1) hq.2 hn
  exact ⟨h1,by rw [h2]; simp; omega⟩
theorem bm9 {H HF:List SO}(he:Ext H HF) {args:List SV}{ks:List Nat}{p:NP}{k:Nat}(hn:nameAt H args ks p=some k):nameAt HF args ks p=some k:=by
 cases p with
 | arg=>exact hn
 | part=>exact hn
 | cell o j=>
  simp only [nameAt] at hn ⊢;split at hn
  case h_2=>cases hn
  rename_i k0 hk0;split at hn
  case h_2=>cases hn
  rename_i n g T hso;have:HF.getD k0 .dead=H.getD k0 .dead:=he k0 (by rw [hso]; simp)
  simp only [this,hso];exact hn
 | hole o=>
  simp only [nameAt] at hn ⊢;split at hn
  case h_2=>cases hn
  rename_i k0 hk0;split at hn
  case h_2=>cases hn
  rename_i hso;have:HF.getD k0 .dead=H.getD k0 .dead:=he k0 (by rw [hso]; simp)
  simp only [this,hso];exact hn
theorem av4 {H HF:List SO}(he:Ext H HF) {args:List SV}:∀ (ps:List NP) (ks ks':List Nat),al9 H args ps ks=some ks'->al9 HF args ps ks=some ks'
 | [],ks,ks',hn=>hn
 | p::r,ks,ks',hn=>by
  simp only [al9] at hn ⊢;split at hn
  case h_2=>cases hn
  rename_i k hk1;rw [bm9 he hk1];exact av4 he r _ ks' hn
theorem aP1 {H HF:List SO}(he:Ext H HF) {ks:List Nat}(ha:(aa5 H ks).all ar2=true):aa5 HF ks=aa5 H ks:=by
 refine List.map_congr_left fun k hk=>he k fun hc=>?_
 have:=lY.1 ha _ (xx.2 ⟨k,hk,rfl⟩)
 rw [hc] at this;cases this
def aR9 (H:List SO) (E:Env) (ks:List Nat) (b:Nat):Prop:=∃ k∈ks,∃ e,E k=some e/\holds e (H.getD k .dead) b
def smlF (X0:Fr) (H:List SO) (E:Env) (ks:List Nat):Fr:=⟨fun b=>Xo X0 E H b/\¬ aR9 H E ks b,aR9 H E ks,smlE E ks,true⟩
theorem by8 {os ks} (_:EI) (so:SO) (v:Value) (us:Nat->Option Nat) (ver:Nat):holds (.slc 0 v us) (smlO os ks so)=holds (.slc ver v us) so:=by
 cases so<;>first | rfl | skip
 ·funext b;simp only [smlO,holds,ae6]
 ·funext b;simp only [smlO,holds,ae5]
theorem ah7 {os H E ks i e b} (h:smlE E ks i=some e) (hb:holds e ((List.map (smlO os ks) (aa5 H ks)).getD i .dead) b):∃ k e0,ks[i]?=some k/\E k=some e0/\holds e0 (H.getD k .dead) b:=by
 obtain ⟨k,hk,h2⟩:=am8 h;have hget:(List.map (smlO os ks) (aa5 H ks)).getD i .dead=smlO os ks (H.getD k .dead):=by
  rw [la,lR,aa5,lR,hk]; rfl
 rw [hget] at hb;rcases h2 with ⟨b0,he,rfl⟩ | ⟨ver,v,us,he,rfl⟩
 ·refine ⟨k,_,hk,he,?_⟩;generalize H.getD k .dead=so at *
  cases so<;>simp only [smlO,holds] at hb ⊢<;>first | exact hb | cases hb
 ·exact ⟨k,_,hk,he,by rw [<-by8 (os:=os) (ks:=ks) (.slc 0 v us) _ v us ver]; exact hb⟩
theorem aG8 {w X X' E} (hx:∀ b,X' b->X b) {os ks} (hv:bY0 os E ks) {so:SO}:(∀ {b},EIok w X E (.blk b) so->EIok w X' (smlE E ks) (.blk b) (smlO os ks so))/\(∀ {ver v us},EIok w X E (.slc ver v us) so->EIok w X' (smlE E ks) (.slc 0 v us) (smlO os ks so)):=by
 have weak:∀ {s:SV}{v:Value},R w X E0 s v->R w X' E0 s v:=fun h=>h.mono (fun _ _ _=>rfl) (fun b _ hb=>hx b hb) (Env.le_refl _)
 constructor
 ·intro b h;cases so with
  | dead=>trivial
  | cells n g T=>
   obtain ⟨vs,h1,h2,h3⟩:=h;exact ⟨vs,h1,h2,fun i hi=>⟨(h3 i hi).1,bd2 hx hv (h3 i hi).2⟩⟩
  | scells n g=>
   obtain ⟨vs,T,fr,h1,h2,h3,h4⟩:=h;exact ⟨vs,T,fr,h1,fun hc=>h2 (hx _ hc),h3,fun i hi=>⟨(h4 i hi).1,weak (h4 i hi).2⟩⟩
  | row=>exact h
  | srow=>exact h
  | deep=>exact h
  | mpi=>exact h
  | mps=>exact h
  | cus Q=>exact Q.mono (fun _ _ _ _ hc _=>hc) (fun b _ hb=>hx b hb) h
 ·intro ver v us h;cases so with
  | dead=>trivial
  | cells=>exact h
  | scells=>exact h
  | mpi kk tot has val=>
   obtain ⟨_,b,es,clock,h1,h2,h3⟩:=h;exact ⟨rfl,b,es,clock,h1,h2,h3.over hx⟩
  | mps kd has c m p T' ho=>
   obtain ⟨_,b,es,clock,h1,h2,d⟩:=h;exact ⟨rfl,b,es,clock,h1,h2,d.over hx _ fun s u hu=>bd2 hx hv hu⟩
  | cus=>exact h
  | row=>
   obtain ⟨_,xs,h2,h3⟩:=h;exact ⟨rfl,xs,h2,fun i j hi hj=>⟨(h3 i j hi hj).1,weak (h3 i j hi hj).2⟩⟩
  | srow=>exact ⟨rfl,weak h.2⟩
  | deep ver' len n c m p g T T' ho=>
   obtain ⟨_,xs,d⟩:=h;refine ⟨rfl,xs,d.map hx (fun i hi=>by rwa [ae6] at hi) (fun i sv' hi=>?_)⟩;rw [at7] at hi;cases hh:hoAt ho i with
   | none=>rw [hh] at hi; cases hi
   | some sv=>
    rw [hh] at hi;cases hi;exact ⟨sv,rfl,fun u hu=>bd2 hx hv hu⟩
theorem Rep.sml {w0 X0 H E w} (h:Rep w0 X0 H E w) {ks:List Nat}(hn:au6 ks=true) (ha:(aa5 H ks).all ar2=true) :
  Rep w (smlF X0 H E ks) ((aa5 H ks).map (smlO (aa5 H ks) ks)) (smlE E ks) w/\∀ b,Xo (smlF X0 H E ks) (smlE E ks) ((aa5 H ks).map (smlO (aa5 H ks) ks)) b->Xo X0 E H b:=by
 have hv:=h.aX1 ha;have hx:∀ b,Xo (smlF X0 H E ks) (smlE E ks) ((aa5 H ks).map (smlO (aa5 H ks) ks)) b->Xo X0 E H b:=by
  rintro b (hb | ⟨i,e,he,hh⟩)
  ·exact hb.1
  ·obtain ⟨k,e0,hk,he0,hh0⟩:=ah7 he hh;exact .inr ⟨k,e0,he0,hh0⟩
 refine ⟨⟨Bel.refl _ _,fun b hb=>⟨h.xlt b hb.1,hb.2⟩,fun i e he=>?_,fun i e he=>?_,fun i e he=>?_,fun i e b he hb=>?_,fun i i' e e' b he he' hb hb'=>?_⟩,hx⟩
 ·have he':smlE E ks i=some e:=he;obtain ⟨k,hk,h2⟩:=am8 he';rcases h2 with ⟨b,hb,rfl⟩ | ⟨ver,v,us,hv,rfl⟩
  ·exact he'
  ·exact ⟨0,v,us,he',fun _=>rfl⟩
 ·obtain ⟨k,hk,_⟩:=am8 he;rw [lV,aa5,lV];exact (lU.1 hk).1
 ·obtain ⟨k,hk,h2⟩:=am8 he;have hget:(List.map (smlO (aa5 H ks) ks) (aa5 H ks)).getD i .dead=smlO (aa5 H ks) ks (H.getD k .dead):=by
   rw [la,lR,aa5,lR,hk]; rfl
  rw [hget];rcases h2 with ⟨b,hb,rfl⟩ | ⟨ver,v,us,hb,rfl⟩
  ·exact (aG8 hx hv).1 (h.ok k _ hb)
  ·exact (aG8 hx hv).2 (h.ok k _ hb)
 ·obtain ⟨k,e0,hk,he0,hh0⟩:=ah7 he hb;exact .inr ⟨k,xi hk,e0,he0,hh0⟩
 ·obtain ⟨k,e0,hk,he0,hh0⟩:=ah7 he hb;obtain ⟨k',e1,hk',he1,hh1⟩:=ah7 he' hb';have:=h.inj k k' e0 e1 b he0 he1 hh0 hh1
  subst this;have h1:=aq0 hn hk;rw [aq0 hn hk'] at h1;exact (Option.some.inj h1).symm
open Go.RowKit
def bigE (os:List SO) (ks:List Nat) (E Es:Env):Env:=fun k=>match posOf ks k with
 | some i=>match Es i with
  | some (.blk b)=>some (.blk b)
  | some (.slc ver v us)=>some (.slc (verO (os.getD i .dead)+ver) v us)
  | none=>none
 | none=>E k
theorem bj0 {os ks E Es k i b} (h:posOf ks k=some i) (he:Es i=some (.blk b)):bigE os ks E Es k=some (.blk b):=by simp only [bigE,h,he]
theorem bi8 {os ks E Es k i ver v us} (h:posOf ks k=some i) (he:Es i=some (.slc ver v us)):bigE os ks E Es k=some (.slc (verO (os.getD i .dead)+ver) v us):=by simp only [bigE,h,he]
theorem aj9 {os ks E Es k} (h:posOf ks k=none):bigE os ks E Es k=E k:=by simp only [bigE,h]
theorem bi9 {os ks E Es k e} (h:bigE os ks E Es k=some e):(posOf ks k=none/\E k=some e)\/∃ i,posOf ks k=some i/\((∃ b,Es i=some (.blk b)/\e = .blk b)\/∃ ver v us,Es i=some (.slc ver v us)/\e = .slc (verO (os.getD i .dead)+ver) v us):=by
 simp only [bigE] at h;split at h
 ·rename_i i hi;split at h
  ·rename_i b hb; cases h; exact .inr ⟨i,hi,.inl ⟨b,hb,rfl⟩⟩
  ·rename_i ver v us hv; cases h; exact .inr ⟨i,hi,.inr ⟨ver,v,us,hv,rfl⟩⟩
  ·cases h
 ·rename_i hi; exact .inl ⟨hi,h⟩
theorem ao1 {os ks v0} (so:SO):(∀ b,holds (.blk b) (bigO os ks v0 so)=holds (.blk b) so)/\∀ v us ver ver',holds (.slc ver' v us) (bigO os ks v0 so)=holds (.slc ver v us) so:=by
 constructor
 ·intro b; cases so<;>rfl
 ·intro v us ver ver';cases so<;>first | rfl | skip
  ·funext b;simp only [bigO,holds,ae6]
  ·funext b;simp only [bigO,holds,ae5]
theorem Env.le_of {E E':Env}(h1:∀ k b,E k=some (.blk b)->E' k=some (.blk b)) (h2:∀ k ver v us,E k=some (.slc ver v us)->∃ ver' v' us',E' k=some (.slc ver' v' us')/\ver<=ver'/\(ver=ver'->v=v')):E.le E':=⟨h1,h2⟩
theorem Goes.bN2 {w0 X0 H E w nm} (h:Rep w0 X0 H E w) {ks:List Nat}(hn:au6 ks=true) (hkn:∀ k∈ks,E k≠none) (ha:(aa5 H ks).all ar2=true) {post:List SO}{Es:Env}{w':World}
  (hs:Rep w (smlF X0 H E ks) post Es w') {res:SV}{v:Value}(hr:R w' (Xo (smlF X0 H E ks) Es post) Es res v) :
  Goes w0 X0 H E w nm (.sets (ah8 (aa5 H ks) ks post ks 0)) (big (aa5 H ks) ks res) v w':=by
 have hkl:∀ k∈ks,k<H.length:=fun k hk=>by
  cases he:E k with
  | none=>exact absurd he (hkn k hk)
  | some e=>exact h.dom k e he
 have hv:=h.aX1 ha;obtain ⟨hlen,hget⟩:=aM2 (os:=aa5 H ks) (ks:=ks) (post:=post) ks 0 H hn hkl;have getIn:∀ {k i},posOf ks k=some i->(ad3 H (ah8 (aa5 H ks) ks post ks 0)).getD k .dead=bigO (aa5 H ks) ks (verO ((aa5 H ks).getD i .dead)) (post.getD i .dead):=fun hp=>by rw [hget,hp]; simp only [lu]
 have getOut:∀ {k},posOf ks k=none->(ad3 H (ah8 (aa5 H ks) ks post ks 0)).getD k .dead=H.getD k .dead:=fun hp=>by rw [hget,hp]
 have le:E.le (bigE (aa5 H ks) ks E Es):=by
  refine Env.le_of (fun k b he=>?_) fun k ver v us he=>?_
  ·cases hp:posOf ks k with
   | none=>rw [aj9 hp]; exact he
   | some i=>exact bj0 hp (hs.nm i _ (aT0 hp he))
  ·cases hp:posOf ks k with
   | none=>exact ⟨ver,v,us,by rw [aj9 hp]; exact he,lh _,fun _=>rfl⟩
   | some i=>
    obtain ⟨ver',v',us',h3,h4⟩:=hs.nm i _ (at2 hp he);have hvk:=hv i k (af6 hp) ver v us he;exact ⟨_,v',us',bi8 hp h3,by omega,fun hc=>(h4 (by omega)).symm⟩
 have held:∀ {i k e b},posOf ks k=some i->bigE (aa5 H ks) ks E Es k=some e->holds e ((ad3 H (ah8 (aa5 H ks) ks post ks 0)).getD k .dead) b->∃ e0,Es i=some e0/\holds e0 (post.getD i .dead) b:=by
  intro i k e b hp he hb;rw [getIn hp] at hb;rcases bi9 he with ⟨hno,_⟩ | ⟨i',hp',h2⟩
  ·rw [hp] at hno; cases hno
  ·rw [hp] at hp';cases hp';rcases h2 with ⟨b0,he0,rfl⟩ | ⟨ver,v,us,he0,rfl⟩
   ·exact ⟨_,he0,by rw [(ao1 _).1] at hb; exact hb⟩
   ·exact ⟨_,he0,by rw [(ao1 _).2 v us ver] at hb; exact hb⟩
 have out:∀ {k e b},posOf ks k=none->E k=some e->holds e (H.getD k .dead) b->¬ aR9 H E ks b:=by
  rintro k e b hp he hb ⟨k',hk',e',he',hb'⟩;have:=h.inj k k' e e' b he he' hb hb'
  subst this;exact aA6 hp hk'
 have x0d:∀ {b},X0.x b->¬ aR9 H E ks b:=by
  rintro b hb ⟨k',hk',e',he',hb'⟩;have h1:=h.x0 b hb;rcases h.low k' e' b he' hb' with h2 | h2
  ·omega
  ·exact h1.2 h2
 have keep:∀ b,b<w.heap.size->¬ aR9 H E ks b->w'.heap[b]?=w.heap[b]?:=fun b hlt hd=>hs.below.block b hlt hd
 have lowS:∀ {i e b},Es i=some e->holds e (post.getD i .dead) b->w.heap.size<=b\/aR9 H E ks b:=fun he hb=>hs.low _ _ _ he hb
 have hx:∀ b,Xo X0 (bigE (aa5 H ks) ks E Es) (ad3 H (ah8 (aa5 H ks) ks post ks 0)) b->Xo (smlF X0 H E ks) Es post b:=by
  rintro b (hb | ⟨k,e,he,hb⟩)
  ·exact .inl ⟨.inl hb,x0d hb⟩
  ·cases hp:posOf ks k with
   | none=>
    rw [aj9 hp] at he;rw [getOut hp] at hb;exact .inl ⟨.inr ⟨k,e,he,hb⟩,out hp he hb⟩
   | some i=>
    obtain ⟨e0,h1,h2⟩:=held hp he hb;exact .inr ⟨i,e0,h1,h2⟩
 have hke:aw4 (Xo X0 E H) w w':=fun b hlt hX=>keep b hlt fun ⟨k,_,e,he,hb⟩=>hX (.inr ⟨k,e,he,hb⟩)
 have hwi:ab6 (Xo X0 E H) (Xo X0 (bigE (aa5 H ks) ks E Es) (ad3 H (ah8 (aa5 H ks) ks post ks 0))) w:=by
  rintro b hlt (hb | ⟨k,e,he,hb⟩)
  ·exact .inl hb
  ·cases hp:posOf ks k with
   | none=>
    rw [aj9 hp] at he;rw [getOut hp] at hb;exact .inr ⟨k,e,he,hb⟩
   | some i=>
    obtain ⟨e0,h1,h2⟩:=held hp he hb;rcases lowS h1 h2 with h3 | ⟨k',_,e',he',hb'⟩
    ·omega
    ·exact .inr ⟨k',e',he',hb'⟩
 have hbig:∀ {s:SV}{u:Value},R w' (Xo (smlF X0 H E ks) Es post) Es s u->R w' (Xo X0 (bigE (aa5 H ks) ks E Es) (ad3 H (ah8 (aa5 H ks) ks post ks 0))) (bigE (aa5 H ks) ks E Es) (big (aa5 H ks) ks s) u:=fun hr=>
  aO1 hx (fun i k b hk he=>bj0 (aq0 hn hk) he) (fun i k ver v us hk he=>bi8 (aq0 hn hk) he) hr
 have weak:∀ {s:SV}{u:Value},R w' (Xo (smlF X0 H E ks) Es post) E0 s u->R w' (Xo X0 (bigE (aa5 H ks) ks E Es) (ad3 H (ah8 (aa5 H ks) ks post ks 0))) E0 s u:=fun hr=>hr.mono (fun _ _ _=>rfl) (fun b _ hb=>hx b hb) (Env.le_refl _)
 refine ⟨bigE (aa5 H ks) ks E Es,le,hke,hwi,⟨?_,h.x0,fun k e hk=>(h.nm k e hk).le le,fun k e he=>?_,fun k e he=>?_,fun k e b he hb=>?_,fun k k' e e' b he he' hb hb'=>?_⟩,hbig hr,fun k hk=> .inl fun hc=>hk ?_⟩
 ·refine ⟨hs.below.os.trans h.below.os,hs.below.tape.trans h.below.tape,hs.below.output.trans h.below.output,xh h.below.size hs.below.size,fun b hlt hd=>?_⟩;refine (keep b (xe hlt h.below.size) fun ⟨k,_,e,he,hb⟩=>?_).trans (h.below.block b hlt hd);rcases h.low k e b he hb with h2 | h2
  ·omega
  ·exact hd h2
 ·show k<(ad3 H (ah8 (aa5 H ks) ks post ks 0)).length;rw [hlen];cases hp:posOf ks k with
  | none=>rw [aj9 hp] at he; exact h.dom k e he
  | some i=>exact hkl k (ax1 hp)
 ·show EIok w' _ _ e ((ad3 H (ah8 (aa5 H ks) ks post ks 0)).getD k .dead);rcases bi9 he with ⟨hp,he0⟩ | ⟨i,hp,h2⟩
  ·rw [getOut hp];exact (h.ok k e he0).mono hke hwi le fun b hb=>keep b (aj6 (h.ok k e he0) hb) (out hp he0 hb)
  ·rw [getIn hp];rcases h2 with ⟨b0,he0,rfl⟩ | ⟨ver,v,us,he0,rfl⟩
   ·have hok:=hs.ok i _ he0;generalize post.getD i .dead=so at hok;cases so with
    | dead=>trivial
    | cells n g T=>
     obtain ⟨vs,h1,h2,h3⟩:=hok;exact ⟨vs,h1,h2,fun j hj=>⟨(h3 j hj).1,hbig (h3 j hj).2⟩⟩
    | scells n g=>
     obtain ⟨vs,T,fr,h1,h2,h3,h4⟩:=hok;exact ⟨vs,T,fr,h1,fun hc=>h2 (hx _ hc),h3,fun j hj=>⟨(h4 j hj).1,weak (h4 j hj).2⟩⟩
    | row=>exact hok
    | srow=>exact hok
    | deep=>exact hok
    | mpi=>exact hok
    | mps=>exact hok
    | cus Q=>exact Q.mono (fun _ _ _ _ hc _=>hc) (fun b _ hb=>hx b hb) hok
   ·have hok:=hs.ok i _ he0;have hverm:∀ b0,ver=0->v = .map (some b0)->verO ((aa5 H ks).getD i .dead)+ver=0:=fun b0 hz hvm=>by
     subst hz;subst hvm;have hki:=af6 hp;cases hEk:E k with
     | none=>exact absurd hEk (hkn k (ax1 hp))
     | some e0=>
      have halk:ar2 (H.getD k .dead)=true:=lY.1 ha _ (xx.2 ⟨k,ax1 hp,rfl⟩);cases e0 with
      | blk b1=>
       have:=hs.nm i _ (aT0 hp hEk)
       rw [he0] at this;cases this
      | slc ver1 v1 us1=>
       obtain ⟨ver2,v2,us2,g1,g2⟩:=hs.nm i _ (at2 hp hEk);rw [he0] at g1;cases g1;have hv1:=g2 rfl;subst hv1;have hz1:=bd3 (h.ok k _ hEk) halk;have:=h.aX1 ha i k hki _ _ _ hEk
       omega
    generalize post.getD i .dead=so at hok;cases so with
    | dead=>trivial
    | cells=>exact hok
    | scells=>exact hok
    | mpi kk tot has val=>
     obtain ⟨hz,b1,es,clock,h1,h2,h3⟩:=hok;exact ⟨hverm b1 hz h1,b1,es,clock,h1,h2,h3.over hx⟩
    | mps kd has c m p T' ho=>
     obtain ⟨hz,b1,es,clock,h1,h2,d⟩:=hok;exact ⟨hverm b1 hz h1,b1,es,clock,h1,h2,d.over hx _ fun s u hu=>hbig hu⟩
    | cus=>exact hok
    | row ver' len n g T=>
     obtain ⟨rfl,xs,h2,h3⟩:=hok;exact ⟨rfl,xs,h2,fun i j hi hj=>⟨(h3 i j hi hj).1,weak (h3 i j hi hj).2⟩⟩
    | srow ver' len n g=>
     obtain ⟨rfl,h2⟩:=hok;exact ⟨rfl,weak h2⟩
    | deep ver' len n c m p g T T' ho=>
     obtain ⟨rfl,xs,d⟩:=hok;refine ⟨rfl,xs,d.map hx (fun i hi=>by rwa [ae6] at hi) (fun i sv' hi=>?_)⟩;rw [at7] at hi;cases hh:hoAt ho i with
     | none=>rw [hh] at hi; cases hi
     | some sv=>
      rw [hh] at hi;cases hi;exact ⟨sv,rfl,fun u hu=>hbig hu⟩
 ·have hb':holds e ((ad3 H (ah8 (aa5 H ks) ks post ks 0)).getD k .dead) b:=hb;cases hp:posOf ks k with
  | none=>
   rw [aj9 hp] at he;rw [getOut hp] at hb';exact h.low k e b he hb'
  | some i=>
   obtain ⟨e0,h1,h2⟩:=held hp he hb';rcases lowS h1 h2 with h3 | ⟨k',_,e',he',hb''⟩
   ·exact .inl (xh h.below.size h3)
   ·exact h.low k' e' b he' hb''
 ·have hb1:holds e ((ad3 H (ah8 (aa5 H ks) ks post ks 0)).getD k .dead) b:=hb;have hb2:holds e' ((ad3 H (ah8 (aa5 H ks) ks post ks 0)).getD k' .dead) b:=hb';have mixed:∀ {k k' e e' i},posOf ks k=none->E k=some e->holds e (H.getD k .dead) b->posOf ks k'=some i->bigE (aa5 H ks) ks E Es k'=some e'->holds e' ((ad3 H (ah8 (aa5 H ks) ks post ks 0)).getD k' .dead) b->False:=by
   intro k k' e e' i hp he hb hp' he' hb';obtain ⟨e0,h1,h2⟩:=held hp' he' hb';rcases lowS h1 h2 with h3 | h3
   ·have:=aj6 (h.ok k e he) hb
    omega
   ·exact out hp he hb h3
  cases hp:posOf ks k with
  | none=>
   rw [aj9 hp] at he;rw [getOut hp] at hb1;cases hp':posOf ks k' with
   | none=>
    rw [aj9 hp'] at he';rw [getOut hp'] at hb2;exact h.inj k k' e e' b he he' hb1 hb2
   | some i'=>exact (mixed hp he hb1 hp' he' hb2).elim
  | some i=>
   cases hp':posOf ks k' with
   | none=>
    rw [aj9 hp'] at he';rw [getOut hp'] at hb2;exact (mixed hp' he' hb2 hp he hb1).elim
   | some i'=>
    obtain ⟨e0,h1,h2⟩:=held hp he hb1;obtain ⟨e1,h3,h4⟩:=held hp' he' hb2;have:=hs.inj i i' e0 e1 b h1 h3 h2 h4
    subst this;exact bu6 hp hp'
 ·cases hp:posOf ks k with
  | none=>rw [aj9 hp]; exact hc
  | some i=>exact absurd hc (hkn k (ax1 hp))
def bB9 (l:List SV) (os:List SO) (a:List SV) (o:List SO):Prop:=match Nat.beq l.length a.length with
 | true=>ar1 os.length os o (StLe ⟨ar3 0 l,os⟩ ⟨ar3 0 a,o⟩)
 | false=>False
def ac3 (f:FuncId) (paths:List NP) {γ:Type}(dec:List SV->List SO->Option γ) (args:γ->List SV) (objs:γ->List SO) (pre:γ->Prop) (res:γ->SV) (post:γ->List SO):FSpec:=
 { f:=f,eff:=true,run:=fun l H _=>match al9 H l paths [] with
   | some ks=>match au6 ks&&(aa5 H ks).all ar2 with
     | true=>match dec (l.map (sml (aa5 H ks) ks)) ((aa5 H ks).map (smlO (aa5 H ks) ks)) with
       | some g=>some ⟨al6 (aa5 H ks) paths (bB9 (l.map (sml (aa5 H ks) ks)) ((aa5 H ks).map (smlO (aa5 H ks) ks)) (args g) (objs g)/\Ask (pre g)),big (aa5 H ks) ks (res g),.sets (ah8 (aa5 H ks) ks (post g) ks 0)⟩
       | none=>none
     | false=>none
   | none=>none }
def bd6 (P:Program) (fn:Func) (m:Nat) (own:Bool) (res:SV) (post:List SO) (s:St):Prop:=
 match resS P fn.ntmps s fn.results.toList with
 | some (p,l)=>p/\match own with
  | true=>ar1 m s.H post (StLe ⟨[(0,oneOf l)],s.H⟩ ⟨[(0,res)],post⟩)
  | false=>match as6 s.H (aJ2 s.H 6 (oneOf l)) with
   | some fl=>aD8 (ad3 s.H fl) fun H=>match pur H 6 (oneOf l) with
    | some v=>ar1 m H post (StLe ⟨[(0,v)],H⟩ ⟨[(0,res)],post⟩)
    | none=>False
   | none=>False
 | none=>False
def retM (P:Program) (fn:Func) (m:Nat) (own:Bool) (res:SV) (post:List SO):SK
 | .exit _,_=>False
 | _,s=>bd6 P fn m own res post s
theorem bl2 {P:Program}{fn:Func}{m:Nat}{own:Bool}{res:SV}{post:List SO}{s:St}{w0 X0 a w} (hk:bd6 P fn m own res post s) (hnm:∀ k,X0.nm k≠none->k<m) (hs:StR w0 X0 fn.ntmps s a w) :
  ∃ v Es,(results fn a.tmps).run P w = .ok v w/\Rep w0 X0 post Es w/\R w (Xo X0 Es post) Es res v:=by
 obtain ⟨E,hrep,htr⟩:=hs;unfold bd6 at hk;split at hk
 case h_2=>exact hk.elim
 rename_i p l hres;obtain ⟨hp,hk⟩:=hk;obtain ⟨v,hv1,hv2⟩:=al0 rfl hrep htr hres hp;have fin:∀ {H:List SO}{sv:SV},Rep w0 X0 H E w->R w (Xo X0 E H) E sv v->ar1 m H post (StLe ⟨[(0,sv)],H⟩ ⟨[(0,res)],post⟩)->∃ v Es,(results fn a.tmps).run P w = .ok v w/\Rep w0 X0 post Es w/\R w (Xo X0 Es post) Es res v:=by
  intro H sv hrep hr hle;obtain ⟨h1,h2⟩:=hle.get;obtain ⟨h3,h4⟩:=hrep.le h2.2 hnm h1;have:=ai0 h4 (fun k ver v us he ver' hr=>az9 (hrep.ok k _ he) hr) (ar6 h2.1 0) hr
  exact ⟨v,_,hv1,h3,this⟩
 split at hk
 ·exact fin hrep hv2 hk
 ·split at hk
  case h_2=>exact hk.elim
  rename_i fl hfl;rw [am1] at hk;split at hk
  case h_2=>exact hk.elim
  rename_i sv hsv;obtain ⟨g1,g2⟩:=ag2 _ _ _ hrep hfl;exact fin g1 (up (an7 g1 6 _ _ _ hsv (hv2.mono (fun _ _ _=>rfl) g2 (Env.le_refl _)))) hk
theorem aX8 {Γ:World->Fr->Prop}(hG:∀ {w0 X0 H E w ks},Γ w0 X0->Rep w0 X0 H E w->Γ w (smlF X0 H E ks)) {P:Program}{specs:List FSpec}(hspecs:∀ s∈specs,bd1 Γ P s) {eqs:List (TypeId×List CK)}(heqs:∀ t n,(t,n)∈eqs->EqOK P t n) (hm:P.follows .mixedOrders=true)
  {f:FuncId}{fn:Func}{body:Code}(hf:P.funcs[f]?=some fn) (hb:fn.body=some body) (_:bp2 (effS specs) body=true) (hN:(∀ w0 X0,Γ w0 X0)\/noRF body=true) (hent:∀ args w,(callFunc f args).run P w = .ok (.enter f args) w)
  {paths:List NP}{γ:Type}{dec:List SV->List SO->Option γ}{args:γ->List SV}{objs:γ->List SO}{pre:γ->Prop}{res:γ->SV}{post:γ->List SO}(A:γ->Ann) (own:Bool) (hlen:∀ g,(args g).length<=fn.ntmps)
  (h:∀ g,pre g->vc P specs eqs fn.ntmps paths.length false (A g) body (retM P fn paths.length own (res g) (post g)) ⟨ar3 0 (args g),objs g⟩):bd1 Γ P (ac3 f paths dec args objs pre res post):=by
 refine fun w0 X0 hΓ=>⟨hent,fun l H HF nm y he _ hrun=>?_,fun l H nm y hrun hask E w hrep hfree vals ha=>?_⟩
 ·simp only [ac3] at hrun ⊢;split at hrun
  case h_2=>cases hrun
  rename_i ks hks;rw [av4 he paths [] ks hks];split at hrun
  case h_2=>cases hrun
  rename_i hc;simp only
  rw [aP1 he (lr _ _▸hc).2,hc];exact hrun
 ·simp only [ac3] at hrun;split at hrun
  case h_2=>cases hrun
  rename_i ks hks;split at hrun
  case h_2=>cases hrun
  rename_i hc;rw [lr] at hc;obtain ⟨hn,hal⟩:=hc;split at hrun
  case h_2=>cases hrun
  rename_i g hdec;cases hrun;obtain ⟨⟨hle,⟨hpre⟩⟩,hholes⟩:=ap6 hask;obtain ⟨hkn,hkl⟩:=aq3 hrep ha paths [] ks (fun k hk=>by cases hk) (aK1 hholes) hks;have hkl':ks.length=paths.length:=by simpa using hkl
  unfold bB9 at hle;split at hle
  case h_2=>exact hle.elim
  rename_i hll;have hll':=lx hll;rw [lV] at hll';obtain ⟨hs,hxs⟩:=hrep.sml hn hal;have hv:=hrep.aX1 hal;have hnm:∀ k,(smlF X0 H E ks).nm k≠none->k<paths.length:=fun k hk=>by
   cases he:smlE E ks k with
   | none=>exact absurd he hk
   | some e=>
    obtain ⟨k',hk',_⟩:=am8 he;have:=(lU.1 hk').1
    omega
  have hT:=ao8 fn.ntmps vals (l.map (sml (aa5 H ks) ks)) w (Xo (smlF X0 H E ks) (smlE E ks) ((aa5 H ks).map (smlO (aa5 H ks) ks))) (smlE E ks) (by rw [ha.1,lV]) (by rw [lV,hll']; exact hlen g) (fun i hi=>by
   rw [lV] at hi;have e1:(l.map (sml (aa5 H ks) ks)).getD i .any=sml (aa5 H ks) ks (l.getD i .any):=by
    rw [la,lR,la,ln hi]; rfl
   rw [e1];exact bd2 hxs hv (ha.2 i hi))
  have hst:StR w (smlF X0 H E ks) fn.ntmps ⟨ar3 0 (l.map (sml (aa5 H ks) ks)),(aa5 H ks).map (smlO (aa5 H ks) ks)⟩ ⟨vals++Array.replicate (fn.ntmps-vals.size) undef,[]⟩ w:=⟨smlE E ks,hs,hT.1,aA0.nil _ _ _,hT.2⟩
  have hst2:=hst.le (m:=((aa5 H ks).map (smlO (aa5 H ks) ks)).length) (fun k hk=>by rw [lV,aa5,lV,hkl']; exact hnm k hk) hle.get.1 hle.get.2;refine aq8 (w0:=w) (X0:=smlF X0 H E ks) (G:=bd6 P fn paths.length own (res g) (post g)) hf hb (aG9 (Γ:=Γ) (w0:=w) (X0:=smlF X0 H E ks) (fun w0 X0 h s hs=>hspecs s hs w0 X0 h) heqs hm body hN (hG hΓ hrep) (.inl rfl) (fun _=>rfl) hnm _ _ _ _ (h g hpre) (fun e s a w' hk hs=>?_) _ w hst2) (fun s a w' hk _ hs=>?_)
  ·cases e with
   | normal=>exact ⟨s,hk,hs⟩
   | ret=>exact ⟨s,hk,hs⟩
   | exit id=>exact hk.elim
  ·obtain ⟨v,Es,h2,h3,h4⟩:=bl2 hk hnm hs;exact ⟨v,h2,v,rfl,Goes.bN2 hrep hn hkn hal h3 h4⟩
theorem av0 {P:Program}{specs:List FSpec}(hspecs:∀ s∈specs,aa2 P s) {eqs:List (TypeId×List CK)}(heqs:∀ t n,(t,n)∈eqs->EqOK P t n) (hm:P.follows .mixedOrders=true)
  {f:FuncId}{fn:Func}{body:Code}(hf:P.funcs[f]?=some fn) (hb:fn.body=some body) (hc:bp2 (effS specs) body=true) (hent:∀ args w,(callFunc f args).run P w = .ok (.enter f args) w)
  {paths:List NP}{γ:Type}{dec:List SV->List SO->Option γ}{args:γ->List SV}{objs:γ->List SO}{pre:γ->Prop}{res:γ->SV}{post:γ->List SO}(A:γ->Ann) (own:Bool) (hlen:∀ g,(args g).length<=fn.ntmps)
  (h:∀ g,pre g->vc P specs eqs fn.ntmps paths.length false (A g) body (retM P fn paths.length own (res g) (post g)) ⟨ar3 0 (args g),objs g⟩):aa2 P (ac3 f paths dec args objs pre res post):=
 am7 fun w0 X0=>aX8 (Γ:=topG) (fun _ _=>trivial) (fun s hs=>(hspecs s hs).g) heqs hm hf hb hc (.inl fun _ _=>trivial) hent A own hlen h w0 X0 trivial
theorem smW {P:Program}{specs:List FSpec}(ha:bC9 P specs) {f:FuncId}{fn:Func}(hf:P.funcs[f]?=some fn)
  {paths:List NP}{γ:Type}{dec:List SV->List SO->Option γ}{args:γ->List SV}{objs:γ->List SO}{pre:γ->Prop}{res:γ->SV}{post:γ->List SO}(A:γ->Ann) (own:Bool)
  (h:∀ g,pre g->vc P specs [] fn.ntmps paths.length false (A g) (fn.body.getD .skip) (retM P fn paths.length own (res g) (post g)) ⟨ar3 0 (args g),objs g⟩) (hm:P.follows .mixedOrders=true:=by kernel_rfl) (hb:fn.body.isSome=true:=by kernel_rfl) (hent:∀ args w,(callFunc f args).run P w = .ok (.enter f args) w:=by intro _ _;kernel_rfl) (hl:∀ g,Nat.ble (args g).length fn.ntmps=true:=by intro g;kernel_rfl):aa2 P (ac3 f paths dec args objs pre res post):= by
 cases e:fn.body with
 | none=>rw [e] at hb; cases hb
 | some b=>
  rw [e] at h;exact av0 (az5 ha) (fun _ _ h=>(lJ h).elim) hm hf e rfl hent A own (fun g=>lH (hl g)) h
theorem Rep.pick {w0:World}{X:Nat->Prop}{H E w} (h:Rep w0 (Fr.of X) H E w) {ks:List Nat}(hn:au6 ks=true) (ha:(aa5 H ks).all ar2=true) :
  Rep w0 (Fr.of X) ((aa5 H ks).map (smlO (aa5 H ks) ks)) (smlE E ks) w/\∀ b,Xo (Fr.of X) (smlE E ks) ((aa5 H ks).map (smlO (aa5 H ks) ks)) b->Xo (Fr.of X) E H b:=by
 have hv:=h.aX1 ha;have hx:∀ b,Xo (Fr.of X) (smlE E ks) ((aa5 H ks).map (smlO (aa5 H ks) ks)) b->Xo (Fr.of X) E H b:=by
  rintro b (hb | ⟨i,e,he,hh⟩)
  ·exact .inl hb
  ·obtain ⟨k,e0,hk,he0,hh0⟩:=ah7 he hh;exact .inr ⟨k,e0,he0,hh0⟩
 refine ⟨⟨h.below,h.x0,fun i e he=>(nomatch he),fun i e he=>?_,fun i e he=>?_,fun i e b he hb=>?_,fun i i' e e' b he he' hb hb'=>?_⟩,hx⟩
 ·obtain ⟨k,hk,_⟩:=am8 he;rw [lV,aa5,lV];exact (lU.1 hk).1
 ·obtain ⟨k,hk,h2⟩:=am8 he;have hget:(List.map (smlO (aa5 H ks) ks) (aa5 H ks)).getD i .dead=smlO (aa5 H ks) ks (H.getD k .dead):=by
   rw [la,lR,aa5,lR,hk]; rfl
  rw [hget];rcases h2 with ⟨b,hb,rfl⟩ | ⟨ver,v,us,hb,rfl⟩
  ·exact (aG8 hx hv).1 (h.ok k _ hb)
  ·exact (aG8 hx hv).2 (h.ok k _ hb)
 ·obtain ⟨k,e0,hk,he0,hh0⟩:=ah7 he hb;exact h.low k e0 b he0 hh0
 ·obtain ⟨k,e0,hk,he0,hh0⟩:=ah7 he hb;obtain ⟨k',e1,hk',he1,hh1⟩:=ah7 he' hb';have:=h.inj k k' e0 e1 b he0 he1 hh0 hh1
  subst this;have h1:=aq0 hn hk;rw [aq0 hn hk'] at h1;exact (Option.some.inj h1).symm
theorem Goes.b45 {w0 X0 H E w nm} (h:Rep w0 X0 H E w) {row:SO}(hf:Free H E nm (.new (bigO [.dead] [nm] 0 row))) {Es:Env}{w':World}(hs:Rep w (Fr.of (Xo X0 E H)) [row] Es w') {res:SV}{v:Value}
  (hr:R w' (Xo (Fr.of (Xo X0 E H)) Es [row]) Es res v):Goes w0 X0 H E w nm (.new (bigO [.dead] [nm] 0 row)) (big [.dead] [nm] res) v w':=by
 have hb:=hs.below.all;obtain ⟨f1,f2,f3⟩:=hf _ rfl;cases he:Es 0 with
 | none=>
  refine ⟨E,Env.le_refl _,Rep.keeps hb,ab6.refl _ _,h.world hb,aO1 (fun b hb=> .inl hb) (fun i k b hk he'=>?_) (fun i k ver v us hk he'=>?_) hr,fun k hk=> .inl hk⟩
  ·cases i with
   | zero=>rw [he] at he'; cases he'
   | succ i=>cases hk
  ·cases i with
   | zero=>rw [he] at he'; cases he'
   | succ i=>cases hk
 | some e=>
  have hhold:∀ b,holds e (bigO [.dead] [nm] 0 row) b->holds e row b:=by
   intro b hb;cases e with
   | blk b0=>rw [(ao1 _).1] at hb; exact hb
   | slc ver v us=>rw [(ao1 _).2 v us ver ver] at hb; exact hb
  have hok:=hs.ok 0 e he;have hrow:[row].getD 0 SO.dead=row:=rfl;rw [hrow] at hok;have hx:∀ b,Xo X0 (E.put nm e) H b->Xo (Fr.of (Xo X0 E H)) Es [row] b:=by
   rintro b (hb | ⟨k,e',hk,hh⟩)
   ·exact .inl (.inl hb)
   ·by_cases hkn:k=nm
    ·subst hkn;rw [Env.aa7] at hk;cases hk;rw [f3] at hh;exact .inr ⟨0,e,he,hhold b hh⟩
    ·rw [Env.ac5 hkn] at hk;exact .inl (.inr ⟨k,e',hk,hh⟩)
  have n1:∀ i k b,([nm]:List Nat)[i]?=some k->Es i=some (.blk b)->(E.put nm e) k=some (.blk b):=by
   intro i k b hk he';cases i with
   | zero=>cases hk; rw [he] at he'; cases he'; exact Env.aa7 _ _ _
   | succ i=>cases hk
  have n2:∀ i k ver v us,([nm]:List Nat)[i]?=some k->Es i=some (.slc ver v us)->(E.put nm e) k=some (.slc (verO (([.dead]:List SO).getD i .dead)+ver) v us):=by
   intro i k ver v us hk he';cases i with
   | zero=>
    cases hk;rw [he] at he';cases he';rw [Env.aa7];show some (EI.slc ver v us)=some (EI.slc (0+ver) v us);rw [lu]
   | succ i=>cases hk
  have hokn:EIok w' (Xo X0 (E.put nm e) H) (E.put nm e) e (bigO [.dead] [nm] 0 row):=by
   have weak:∀ {s:SV}{u:Value},R w' (Xo (Fr.of (Xo X0 E H)) Es [row]) E0 s u->R w' (Xo X0 (E.put nm e) H) E0 s u:=fun hr=>hr.mono (fun _ _ _=>rfl) (fun b _ hb=>hx b hb) (Env.le_refl _)
   cases e with
   | blk b0=>
    cases row with
    | dead=>trivial
    | cells n g T=>
     obtain ⟨vs,h1,h2,h3⟩:=hok;exact ⟨vs,h1,h2,fun j hj=>⟨(h3 j hj).1,aO1 hx n1 n2 (h3 j hj).2⟩⟩
    | scells n g=>
     obtain ⟨vs,T,fr,h1,h2,h3,h4⟩:=hok;exact ⟨vs,T,fr,h1,fun hc=>h2 (hx _ hc),h3,fun j hj=>⟨(h4 j hj).1,weak (h4 j hj).2⟩⟩
    | row=>exact hok
    | srow=>exact hok
    | deep=>exact hok
    | mpi=>exact hok
    | mps=>exact hok
    | cus Q=>exact Q.mono (fun _ _ _ _ hc _=>hc) (fun b _ hb=>hx b hb) hok
   | slc ver v us=>
    cases row with
    | dead=>trivial
    | cells=>exact hok
    | scells=>exact hok
    | mpi kk tot has val=>
     obtain ⟨hz,b1,es,clock,h1,h2,h3⟩:=hok;exact ⟨hz,b1,es,clock,h1,h2,h3.over hx⟩
    | mps kd has c m p T' ho=>
     obtain ⟨hz,b1,es,clock,h1,h2,d⟩:=hok;exact ⟨hz,b1,es,clock,h1,h2,d.over hx _ fun s u hu=>aO1 hx n1 n2 hu⟩
    | cus=>exact hok
    | row ver' len n g T=>
     obtain ⟨rfl,xs,h2,h3⟩:=hok;exact ⟨(lu _).symm,xs,h2,fun i j hi hj=>⟨(h3 i j hi hj).1,weak (h3 i j hi hj).2⟩⟩
    | srow ver' len n g=>
     obtain ⟨rfl,h2⟩:=hok;exact ⟨(lu _).symm,weak h2⟩
    | deep ver' len n c m p g T T' ho=>
     obtain ⟨rfl,xs,d⟩:=hok;refine ⟨(lu _).symm,xs,d.map hx (fun i hi=>by rwa [ae6] at hi) (fun i sv' hi=>?_)⟩;rw [at7] at hi;cases hh:hoAt ho i with
     | none=>rw [hh] at hi; cases hi
     | some sv=>
      rw [hh] at hi;cases hi;exact ⟨sv,rfl,fun u hu=>aO1 hx n1 n2 hu⟩
  obtain ⟨g1,g2⟩:=h.new (e:=e) f1 f2 hb (fun b hb'=>by
   rw [f3] at hb';rcases hs.low 0 e b he (hhold b hb') with h4 | h4
   ·exact h4
   ·exact h4.elim) (by rw [f3]; exact hokn)
  refine ⟨E.put nm e,Env.ax6 f1,Rep.keeps hb,g2,g1,aO1 hx n1 n2 hr,fun k hk=>?_⟩;by_cases hkn:k=nm
  ·exact .inr ⟨hkn,_,rfl⟩
  ·rw [Env.ac5 hkn] at hk; exact .inl hk
def aE9 (n:Nat):List SO:=(List.range n).map fun _=> .dead
def af7 (d n:Nat):List Nat:=(List.range n).map fun i=>d+i
theorem ax4 {d n i k:Nat}(h:(af7 d n)[i]?=some k):i<n/\k=d+i:=by
 unfold af7 at h;rw [lR] at h;cases hr:(List.range n)[i]? with
 | none=>rw [hr] at h; cases h
 | some j=>
  rw [hr] at h;cases h;have hi:=(lU.1 hr).1;rw [uT] at hi;rw [uG hi] at hr;cases hr;exact ⟨hi,rfl⟩
theorem bA8 (n i:Nat):verO ((aE9 n).getD i .dead)=0:=by
 have:(aE9 n).getD i .dead = .dead:=by
  unfold aE9;rw [la,lR];cases (List.range n)[i]?<;>rfl
 rw [this]; rfl
theorem bp7.of {w0 X0 H E w} (h:Rep w0 X0 H E w) {rows:List SO}{Es:Env}{w':World}(hs:Rep w (Fr.of (Xo X0 E H)) rows Es w') {res:SV}{v:Value}(hr:R w' (Xo (Fr.of (Xo X0 E H)) Es rows) Es res v) :
  bp7 w0 X0 H E w (rows.map (bigO (aE9 rows.length) (af7 H.length rows.length) 0)) (big (aE9 rows.length) (af7 H.length rows.length) res) v w':=by
 have hb:=hs.below.all;generalize hE:(fun k=>if k<H.length then E k else Es (k-H.length):Env)=E';generalize hN:rows.map (bigO (aE9 rows.length) (af7 H.length rows.length) 0)=new;have old:∀ {k},k<H.length->E' k=E k:=fun hk=>by rw [<-hE]; exact lg hk
 have nw:∀ i,E' (H.length+i)=Es i:=fun i=>by
  rw [<-hE];show (if H.length+i<H.length then E (H.length+i) else Es (H.length+i-H.length))=Es i;rw [lb (by omega),Nat.add_sub_cancel_left]
 have split:∀ k,k<H.length\/∃ i,k=H.length+i:=fun k=>by
  by_cases hk:k<H.length
  ·exact .inl hk
  ·exact .inr ⟨k-H.length,by omega⟩
 have hlen:new.length=rows.length:=by rw [<-hN,lV]
 have getOld:∀ {k},k<H.length->(H++new).getD k .dead=H.getD k .dead:=fun hk=>aa8 hk
 have getNew:∀ {i},i<rows.length->(H++new).getD (H.length+i) .dead=bigO (aE9 rows.length) (af7 H.length rows.length) 0 (rows.getD i .dead):=fun {i} hi=>by
  rw [la,lN (by omega),Nat.add_sub_cancel_left,<-hN,lR,la,ln hi];rfl
 have hhold:∀ {e:EI}{row:SO}{b:Nat},holds e (bigO (aE9 rows.length) (af7 H.length rows.length) 0 row) b->holds e row b:=by
  intro e row b hb;cases e with
  | blk b0=>rw [(ao1 _).1] at hb; exact hb
  | slc ver v us=>rw [(ao1 _).2 v us ver ver] at hb; exact hb
 have hx:∀ b,Xo X0 E' (H++new) b->Xo (Fr.of (Xo X0 E H)) Es rows b:=by
  rintro b (hb | ⟨k,e,hk,hh⟩)
  ·exact .inl (.inl hb)
  ·rcases split k with hkl | ⟨i,rfl⟩
   ·rw [old hkl] at hk;rw [getOld hkl] at hh;exact .inl (.inr ⟨k,e,hk,hh⟩)
   ·rw [nw] at hk;rw [getNew (hs.dom _ _ hk)] at hh;exact .inr ⟨i,e,hk,hhold hh⟩
 have hw:ab6 (Xo X0 E H) (Xo X0 E' (H++new)) w:=by
  intro b hlt hbx;rcases hx b hbx with h1 | ⟨i,e,he,hh⟩
  ·exact h1
  ·rcases hs.low i e b he hh with h4 | h4
   ·omega
   ·exact h4.elim
 have le:E.le E':=⟨fun k b hk=>by rw [old (h.dom _ _ hk)]; exact hk,fun k ver v us hk=>⟨ver,v,us,by rw [old (h.dom _ _ hk)]; exact hk,lh _,fun _=>rfl⟩⟩
 have n1:∀ i k b,(af7 H.length rows.length)[i]?=some k->Es i=some (.blk b)->E' k=some (.blk b):=fun i k b hk he=>by
  obtain ⟨_,rfl⟩:=ax4 hk;rw [nw]; exact he
 have n2:∀ i k ver v us,(af7 H.length rows.length)[i]?=some k->Es i=some (.slc ver v us)->E' k=some (.slc (verO ((aE9 rows.length).getD i .dead)+ver) v us):=fun i k ver v us hk he=>by
  obtain ⟨_,rfl⟩:=ax4 hk;rw [nw,he,bA8,lu]
 have okn:∀ {e:EI}{row:SO},EIok w' (Xo (Fr.of (Xo X0 E H)) Es rows) Es e row->EIok w' (Xo X0 E' (H++new)) E' e (bigO (aE9 rows.length) (af7 H.length rows.length) 0 row):=by
  intro e row hok;have weak:∀ {s:SV}{u:Value},R w' (Xo (Fr.of (Xo X0 E H)) Es rows) E0 s u->R w' (Xo X0 E' (H++new)) E0 s u:=fun hr=>hr.mono (fun _ _ _=>rfl) (fun b _ hb=>hx b hb) (Env.le_refl _)
  cases e with
  | blk b0=>
   cases row with
   | dead=>trivial
   | cells n g T=>
    obtain ⟨vs,h1,h2,h3⟩:=hok;exact ⟨vs,h1,h2,fun j hj=>⟨(h3 j hj).1,aO1 hx n1 n2 (h3 j hj).2⟩⟩
   | scells n g=>
    obtain ⟨vs,T,fr,h1,h2,h3,h4⟩:=hok;exact ⟨vs,T,fr,h1,fun hc=>h2 (hx _ hc),h3,fun j hj=>⟨(h4 j hj).1,weak (h4 j hj).2⟩⟩
   | row=>exact hok
   | srow=>exact hok
   | deep=>exact hok
   | mpi=>exact hok
   | mps=>exact hok
   | cus Q=>exact Q.mono (fun _ _ _ _ hc _=>hc) (fun b _ hb=>hx b hb) hok
  | slc ver v us=>
   cases row with
   | dead=>trivial
   | cells=>exact hok
   | scells=>exact hok
   | mpi kk tot has val=>
    obtain ⟨hz,b1,es,clock,h1,h2,h3⟩:=hok;exact ⟨hz,b1,es,clock,h1,h2,h3.over hx⟩
   | mps kd has c m p T' ho=>
    obtain ⟨hz,b1,es,clock,h1,h2,d⟩:=hok;exact ⟨hz,b1,es,clock,h1,h2,d.over hx _ fun s u hu=>aO1 hx n1 n2 hu⟩
   | cus=>exact hok
   | row ver' len n g T=>
    obtain ⟨rfl,xs,h2,h3⟩:=hok;exact ⟨(lu _).symm,xs,h2,fun i j hi hj=>⟨(h3 i j hi hj).1,weak (h3 i j hi hj).2⟩⟩
   | srow ver' len n g=>
    obtain ⟨rfl,h2⟩:=hok;exact ⟨(lu _).symm,weak h2⟩
   | deep ver' len n c m p g T T' ho=>
    obtain ⟨rfl,xs,d⟩:=hok;refine ⟨(lu _).symm,xs,d.map hx (fun i hi=>by rwa [ae6] at hi) (fun i sv' hi=>?_)⟩;rw [at7] at hi;cases hh:hoAt ho i with
    | none=>rw [hh] at hi; cases hi
    | some sv=>
     rw [hh] at hi;cases hi;exact ⟨sv,rfl,fun u hu=>aO1 hx n1 n2 hu⟩
 have newb:∀ {i e b},Es i=some e->holds e ((H++new).getD (H.length+i) .dead) b->w.heap.size<=b:=fun {i e b} he hh=>by
  rw [getNew (hs.dom _ _ he)] at hh;rcases hs.low i e b he (hhold hh) with h4 | h4
  ·exact h4
  ·exact h4.elim
 have oldb:∀ {k e b},E k=some e->holds e (H.getD k .dead) b->b<w.heap.size:=fun he hh=>aj6 (h.ok _ _ he) hh
 refine ⟨E',le,Rep.keeps hb,hw,⟨h.below.below hb,h.x0,fun k e hk=>(h.nm k e hk).le le,fun k e hk=>?_,fun k e hk=>?_,fun k e b hk hh=>?_,fun k k' e e' b hk hk' hh hh'=>?_⟩,aO1 hx n1 n2 hr,fun _ hk=>old hk⟩
 ·rw [lv,hlen];rcases split k with hkl | ⟨i,rfl⟩
  ·omega
  ·rw [nw] at hk;have:=hs.dom _ _ hk
   omega
 ·rcases split k with hkl | ⟨i,rfl⟩
  ·rw [old hkl] at hk;rw [getOld hkl];exact (h.ok k e hk).mono (Rep.keeps hb) hw le fun b hh'=>hb.block b (oldb hk hh')
  ·rw [nw] at hk;rw [getNew (hs.dom _ _ hk)];exact okn (hs.ok i e hk)
 ·rcases split k with hkl | ⟨i,rfl⟩
  ·rw [old hkl] at hk;rw [getOld hkl] at hh;exact h.low k e b hk hh
  ·rw [nw] at hk;have:=newb hk hh
   have:=h.below.size
   exact .inl (by omega)
 ·rcases split k with hkl | ⟨i,rfl⟩
  ·rw [old hkl] at hk;rw [getOld hkl] at hh;rcases split k' with hkl' | ⟨i',rfl⟩
   ·rw [old hkl'] at hk';rw [getOld hkl'] at hh';exact h.inj k k' e e' b hk hk' hh hh'
   ·rw [nw] at hk';have:=newb hk' hh'
    have:=oldb hk hh
    omega
  ·rw [nw] at hk;rcases split k' with hkl' | ⟨i',rfl⟩
   ·rw [old hkl'] at hk';rw [getOld hkl'] at hh';have:=newb hk hh
    have:=oldb hk' hh'
    omega
   ·rw [nw] at hk';rw [getNew (hs.dom _ _ hk)] at hh;rw [getNew (hs.dom _ _ hk')] at hh';rw [hs.inj i i' e e' b hk hk' (hhold hh) (hhold hh')]
def mkNS (f:FuncId) {γ:Type}(dec:List SV->Option γ) (args:γ->List SV) (pre:γ->Prop) (res:γ->SV) (rows:γ->List SO):NSpec:=
 ⟨f,fun l=>match l.all (ac6 6) with
  | true=>match dec l with
   | some g=>some (aa3.leArgs l (args g)/\Ask (pre g),fun d=>big (aE9 (rows g).length) (af7 d (rows g).length) (res g),fun d=>(rows g).map (bigO (aE9 (rows g).length) (af7 d (rows g).length) 0))
   | none=>none
  | false=>none⟩
def bq2 (P:Program) (fn:Func) (ks:List Nat) (res:SV) (rows:List SO) (s:St):Prop:=
 match resS P fn.ntmps s fn.results.toList with
 | some (p,l)=>p/\match au6 ks&&(aa5 s.H ks).all ar2 with
  | true=>StLe ⟨[(0,sml (aa5 s.H ks) ks (oneOf l))],(aa5 s.H ks).map (smlO (aa5 s.H ks) ks)⟩ ⟨[(0,res)],rows⟩
  | false=>False
 | none=>False
def retKs (P:Program) (fn:Func) (ks:List Nat) (res:SV) (rows:List SO):SK
 | .exit _,_=>False
 | _,s=>bq2 P fn ks res rows s
def bq1 (P:Program) (fn:Func) (k:Nat) (res:SV) (row:SO) (s:St):Prop:=
 match resS P fn.ntmps s fn.results.toList with
 | some (p,l)=>p/\match ar2 (s.H.getD k .dead) with
  | true=>StLe ⟨[(0,sml (aa5 s.H [k]) [k] (oneOf l))],(aa5 s.H [k]).map (smlO (aa5 s.H [k]) [k])⟩ ⟨[(0,res)],[row]⟩
  | false=>False
 | none=>False
def retN (P:Program) (fn:Func) (k:Nat) (res:SV) (row:SO):SK
 | .exit _,_=>False
 | _,s=>bq1 P fn k res row s
theorem aX6 {P:Program}{specs:List FSpec}(hspecs:∀ s∈specs,aa2 P s) {eqs:List (TypeId×List CK)}(heqs:∀ t n,(t,n)∈eqs->EqOK P t n) (hm:P.follows .mixedOrders=true)
  {f:FuncId}{fn:Func}{body:Code}(hf:P.funcs[f]?=some fn) (hb:fn.body=some body) (_:bp2 (effS specs) body=true) (hent:∀ args w,(callFunc f args).run P w = .ok (.enter f args) w)
  {γ:Type}{dec:List SV->Option γ}{args:γ->List SV}{pre:γ->Prop}{res:γ->SV}{rows:γ->List SO}(A:γ->Ann) (ks:γ->List Nat) (hlen:∀ g,(args g).length<=fn.ntmps)
  (h:∀ g,pre g->vc P specs eqs fn.ntmps 0 false (A g) body (retKs P fn (ks g) (res g) (rows g)) ⟨ar3 0 (args g),[]⟩):NewsOK P (mkNS f dec args pre res rows):=by
 refine ⟨hent,fun l p rs new hrun hp w0 X0 H E w hrep vals ha=>?_⟩;simp only [mkNS] at hrun;split at hrun
 case h_2=>cases hrun
 rename_i hpu;split at hrun
 case h_2=>cases hrun
 rename_i g hdec;cases hrun;obtain ⟨hle,⟨hpre⟩⟩:=hp;obtain ⟨hll,hle⟩:=an9 hle;have hr:=aM1 ha hpu;have hsz:=ha.1;have hxo:Xo (Fr.of (Xo X0 E H)) E0 []=Xo X0 E H:=by
  funext b;apply propext;exact ⟨fun hb=>hb.elim id (fun ⟨k,e,he,_⟩=>(nomatch he)),fun hb=>Or.inl hb⟩
 have hT:=ao8 fn.ntmps vals (args g) w (Xo X0 E H) E0 (by omega) (hlen g) (fun i hi=>bl6 (fun _ hb=>hb) (hle i hi) (hr i (by omega)));refine aq8 (w0:=w) (X0:=Fr.of (Xo X0 E H)) (G:=bq2 P fn (ks g) (res g) (rows g)) hf hb (bd5 (w0:=w) (X0:=Fr.of (Xo X0 E H)) hspecs heqs hm body (.inl rfl) (fun _=>rfl) (fun k hk=>absurd rfl hk) _ _ _ _ (h g hpre) (fun e s a w' hk hs=>?walk) _ w ?start) (fun s a w' hk _ hs=>?fin)
 case walk=>
  cases e with
  | normal=>exact ⟨s,hk,hs⟩
  | ret=>exact ⟨s,hk,hs⟩
  | exit id=>exact hk.elim
 case fin=>
   obtain ⟨E1,hrep1,htr⟩:=hs;unfold bq2 at hk;split at hk
   case h_2=>exact hk.elim
   rename_i p0 l0 hres;obtain ⟨hp,hk⟩:=hk;obtain ⟨v,hv1,hv2⟩:=al0 rfl hrep1 htr hres hp;split at hk
   case h_2=>exact hk.elim
   rename_i hal;rw [lr] at hal;obtain ⟨p1,p2⟩:=hrep1.pick (ks:=ks g) hal.1 hal.2;obtain ⟨p3,p4⟩:=p1.le (m:=0) hk.2 (fun k hk=>absurd rfl hk) (by simp [NmLe,Nat.ble_eq_true_of_le (lm _)]);have hsv:=ai0 p4 (fun k ver v us he ver' hr=>az9 (p1.ok k _ he) hr) (ar6 hk.1 0) (bd2 p2 (hrep1.aX1 hal.2) hv2);exact ⟨v,hv1,v,rfl,bp7.of hrep p3 hsv⟩
 case start=>
  refine ⟨E0,⟨Bel.refl _ _,fun b hb=>⟨hrep.xlt b hb,id⟩,fun k e he=>(nomatch he),fun k e he=>(nomatch he),fun k e he=>(nomatch he),fun k e b he=>(nomatch he),fun k k' e e' b he=>(nomatch he)⟩,hT.1,aA0.nil _ _ _,fun t ht=>?_⟩;rw [hxo];exact hT.2 t ht
def bf8 (H:List SO):List SV->Option (List SV)
 | []=>some []
 | s::r=>match pur H 6 s with
  | some s'=>match bf8 H r with
   | some r'=>some (s'::r')
   | none=>none
  | none=>none
def giv (s:FSpec):FSpec:={ f:=s.f,eff:=true,run:=fun l H nm=>match as6 H (l.flatMap (aJ2 H 6)) with
  | some fl=>aD8 (ad3 H fl) fun H'=>match bf8 H' l with
    | some l'=>match s.run l' H' nm with
      | some y=>match y.eff with
        | .keep=>some ⟨y.ask,y.val,.sets fl⟩
        | _=>none
      | none=>none
    | none=>none
  | none=>none }
theorem aD2 {w0 X0 H E w} (h:Rep w0 X0 H E w):∀ {l l':List SV},bf8 H l=some l'->l'.length=l.length/\∀ i v,i<l.length->R w (Xo X0 E H) E (l.getD i .any) v->R w (Xo X0 E H) E (l'.getD i .any) v
 | [],l',hp=>by cases hp; exact ⟨rfl,fun i v hi=>absurd hi (lj _)⟩
 | s::r,l',hp=>by
  simp only [bf8] at hp;split at hp
  case h_2=>cases hp
  rename_i s' hs;split at hp
  case h_2=>cases hp
  rename_i r' hr;cases hp;obtain ⟨h1,h2⟩:=aD2 h hr;refine ⟨by simp [h1],fun i v hi hv=>?_⟩;cases i with
  | zero=>exact up (an7 h 6 _ _ _ hs hv)
  | succ i=>exact h2 i v (by simpa using hi) hv
theorem b66 {P:Program}{w0:World}{X0:Fr}{s:FSpec}(hs:ah0 P w0 X0 s):ah0 P w0 X0 (giv s):=by
 refine ⟨hs.1,fun l H HF nm y _ hns hrun=>?_,fun l H nm y hrun hask E w hrep hfree vals ha=>?_⟩
 ·exfalso;simp only [giv] at hrun;split at hrun
  case h_2=>cases hrun
  rw [am1] at hrun;split at hrun
  case h_2=>cases hrun
  split at hrun
  case h_2=>cases hrun
  split at hrun
  case h_2=>cases hrun
  cases hrun;exact hns _ rfl
 ·simp only [giv] at hrun;split at hrun
  case h_2=>cases hrun
  rename_i fl hfl;rw [am1] at hrun;split at hrun
  case h_2=>cases hrun
  rename_i l' hl';split at hrun
  case h_2=>cases hrun
  rename_i y' hy';split at hrun
  case h_2=>cases hrun
  rename_i hkeep;cases hrun;obtain ⟨g1,g2⟩:=ag2 _ _ _ hrep hfl;obtain ⟨p1,p2⟩:=aD2 g1 hl';refine (hs.2.2 l' (ad3 H fl) nm y' hy' hask E w g1 (fun so hso=>by rw [hkeep] at hso; cases hso) vals ⟨by rw [p1]; exact ha.1,fun i hi=>?_⟩).mono ?_
  ·rw [p1] at hi;exact p2 i _ hi ((ha.2 i hi).mono (fun _ _ _=>rfl) g2 (Env.le_refl _))
  ·rintro e w' ⟨v,rfl,E',le,hk,hx,hr,hv,hE⟩;rw [hkeep] at hx hr hv hE;exact ⟨v,rfl,E',le,fun b hlt hb=>hk b hlt fun hc=>hb (g2 b hlt hc),g2.trans hx,hr,hv,fun k hk=>(hE k hk).elim .inl fun ⟨_,so,hso⟩=>by cases hso⟩
theorem bO6 {P:Program}{s:FSpec}(hs:aa2 P s):aa2 P (giv s):=am7 fun w0 X0=>b66 (hs.at w0 X0)
def bE3:Nat->SV->Bool
 | 0,_=>false
 | f+1,sv=>match sv with
  | .int ..=>true
  | .bool _=>true
  | .lit _=>true
  | .str _=>true
  | .tup n g=>(List.range n).all fun i=>bE3 f (g i)
  | _=>false
theorem aO5 {w w':World}{X X':Nat->Prop}{E E':Env}:∀ (f:Nat) (sv:SV) (v:Value),bE3 f sv=true->R w X E sv v->R w' X' E' sv v
 | 0,_,_,h,_=>by cases h
 | f+1,sv,v,h,hr=>by
  cases hr with
  | int=>exact .int
  | bool=>exact .bool
  | lit=>exact .lit
  | str=>exact .str
  | tup hs hr=>exact .tup hs fun i hi=>aO5 f _ _ (ad1 h hi) (hr i hi)
  | _=>simp [bE3] at h
def peek (H:List SO) (sv:SV):Option SV:=match sv with
  | .own k off=>match H.getD k .dead with
   | .scells n g=>if off<=n then some (.ref (n-off) (fun j=>g (off+j))) else none
   | .cells n g _=>if off<=n/\(List.range n).all (fun i=>ac6 6 (g i))=true then some (.ref (n-off) (fun j=>g (off+j))) else none
   | _=>none
  | .osl k ver=>match H.getD k .dead with
   | .srow ver' len n g=>if ver=ver' then some (.sl len n g) else none
   | .row ver' len n g _=>if ver=ver' then some (.sl len n g) else none
   | .deep ver' len n c m p g _ _ ho=>match ho with
    | none=>if ver=ver' then some (.sl len n (a48 c m p g)) else none
    | some _=>none
   | _=>none
  | .ownAt ..=>none
  | .win k ver n lo len=>match H.getD k .dead with
   | .srow ver' _ n' g=>if ver=ver'/\n=n' then some (.sl len n (fun i j=>g (lo+i) j)) else none
   | .row ver' _ n' g _=>if ver=ver'/\n=n' then some (.sl len n (fun i j=>g (lo+i) j)) else none
   | .deep ver' _ n' c m p g _ _ ho=>match ho with
    | none=>if ver=ver'/\n=n' then some (.sl len n (fun i j=>a48 c m p g (lo+i) j)) else none
    | some _=>none
   | _=>none
  | s=>match ac6 6 s with
   | true=>some s
   | false=>none
theorem aY2 {w0 X0 H E w} (h:Rep w0 X0 H E w) {k ver:Nat}{v:Value}{us:Nat->Option Nat}(he:E k=some (.slc ver v us)) {ver' len n:Nat}{G:Nat->Nat->SV}
  (hs:(∃ g T,H.getD k .dead = .row ver' len n g T/\G=g)\/(∃ g,H.getD k .dead = .srow ver' len n g/\G=g)\/∃ c m p g T T',H.getD k .dead = .deep ver' len n c m p g T T' none/\G=a48 c m p g) :
  ver=ver'/\R w (fun _=>False) E0 (.sl len n G) v:=by
 have hok:=h.ok k _ he;have weak:∀ {s:SV}{v:Value},R w (Xo X0 E H) E0 s v->R w (fun _=>False) E0 s v:=fun h=>h.mono (fun _ _ _=>rfl) (fun b _ hb=>hb.elim) (Env.le_refl _)
 rcases hs with ⟨g,T,hk,rfl⟩ | ⟨g,hk,rfl⟩ | ⟨c,m,p,g,T,T',hk,rfl⟩<;>rw [hk] at hok
 ·obtain ⟨h1,xs,h2,h3⟩:=hok;exact ⟨h1,h2.toSl (T:=T) (fun b _ hb=>hb) fun i j hi hj=>⟨(h3 i j hi hj).1,weak (h3 i j hi hj).2⟩⟩
 ·exact ⟨hok.1,weak hok.2⟩
 ·obtain ⟨h1,xs,d⟩:=hok;refine ⟨h1,d.own.toSl (T:=T) (fun b _ hb=>hb) fun i j hi hj=>?_⟩;cases j with
  | succ j=>exact ⟨(d.rest i (j+1) hi (xG _) hj).1,weak (d.rest i (j+1) hi (xG _) hj).2⟩
  | zero=>
   obtain ⟨g1,ys,g2,g3⟩:=d.inn i hi rfl;rw [lX];refine ⟨?_,g2.toSl (T:=T') (fun b _ hb=>hb) fun i' j' hi' hj'=>⟨(g3 i' j' hi' hj').1,weak (g3 i' j' hi' hj').2⟩⟩;obtain ⟨a,a2,a3,e⟩:=g2.slice;rw [e]; rfl
theorem bl9 {w0 X0 H E w} (h:Rep w0 X0 H E w) (sv sv':SV) (v:Value) (hp:peek H sv=some sv') (hr:R w (Xo X0 E H) E sv v):R w (fun _=>False) E0 sv' v:=by
  have weak:∀ {s:SV}{v:Value},R w (Xo X0 E H) E0 s v->R w (fun _=>False) E0 s v:=fun h=>h.mono (fun _ _ _=>rfl) (fun b _ hb=>hb.elim) (Env.le_refl _)
  have pu:∀ {s:SV}{v:Value},R w (Xo X0 E H) E s v->(match ac6 6 s with
   | true=>some s
   | false=>none)=some sv'->R w (fun _=>False) E0 sv' v:=fun hr hp=>by
   split at hp
   ·rename_i hb; cases hp; exact weak (ae1 6 _ _ hb hr)
   ·cases hp
  have old:∀ {k ver ver' v' us},E k=some (.slc ver' v' us)->ver<ver'->∀ {G:Nat->Nat->SV}{len n:Nat},((∃ g T,H.getD k .dead = .row ver len n g T/\G=g)\/(∃ g,H.getD k .dead = .srow ver len n g/\G=g)\/∃ c m p g T T',H.getD k .dead = .deep ver len n c m p g T T' none/\G=a48 c m p g)->False:=fun he hl G len n hs=>by
   have:=(aY2 h he hs).1
   omega
  have win:∀ {k ver n lo len a a0 len0 cap0 us len1} {G:Nat->Nat->SV},E k=some (.slc ver (.slice a0 len0 cap0) us)->lo+len<=len0->(len≠0->a=a0.map (·.add (lo*n)))->
    ((∃ g T,H.getD k .dead = .row ver len1 n g T/\G=g)\/(∃ g,H.getD k .dead = .srow ver len1 n g/\G=g)\/∃ c m p g T T',H.getD k .dead = .deep ver len1 n c m p g T T' none/\G=a48 c m p g)->
    R w (fun _=>False) E0 (.sl len n (fun i j=>G (lo+i) j)) (.slice a len (cap0-lo)):=by
   intro k ver n lo len a a0 len0 cap0 us len1 G he hl ha hs;have hr2:=(aY2 h he hs).2;by_cases hz:len=0
   ·subst hz; exact .sl0
   ·cases hr2 with
    | sl0=>omega
    | sl hb hX hc hlc ho hr=>
     rename_i b o c T fr;rw [ha hz];have hle:=ll n hl;rw [lK] at hle;have hadd:(some (⟨b,o,none⟩:Addr)).map (·.add (lo*n))=some ⟨b,o+lo*n,none⟩:=by rw [lD]; exact congrArg some (Addr.add_lit b o _)
     rw [hadd];have e1:∀ i j,o+lo*n+i*n+j=o+(lo+i)*n+j:=fun i j=>by rw [lK]; omega
     refine .sl hb hX (by omega) (by omega) (fun i j hi hj=>?_) fun i j hi hj=>?_
     ·rw [e1]; exact ho _ _ (by omega) hj
     ·rw [e1]; exact hr _ _ (by omega) hj
  cases hr with
  | any=>exact pu .any hp
  | int=>exact pu .int hp
  | bool=>exact pu .bool hp
  | lit=>exact pu .lit hp
  | str=>exact pu .str hp
  | nilfn=>exact pu .nilfn hp
  | cap0=>exact pu .cap0 hp
  | fn hs hr=>exact pu (.fn hs hr) hp
  | fnb hs hr=>exact pu (.fnb hs hr) hp
  | agg hs ho hr=>exact pu (.agg hs ho hr) hp
  | tup hs hr=>exact pu (.tup hs hr) hp
  | sl0=>exact pu .sl0 hp
  | sl hb hX hc hl ho hr=>exact pu (.sl hb hX hc hl ho hr) hp
  | ref hb hX hc ho hr=>exact pu (.ref hb hX hc ho hr) hp
  | own he=>
   rename_i k off b;simp only [peek] at hp;have hok:=h.ok k _ he;generalize H.getD k .dead=so at hp hok;cases so<;>simp only [reduceCtorEq] at hp
   ·rename_i n g T;obtain ⟨⟨ha,hall⟩,rfl⟩:=aa0 hp;obtain ⟨vs,h1,h2,h3⟩:=hok;exact .ref h1 (fun hb=>hb) (by omega) (fun j hj=>(h3 (off+j) (by omega)).1) fun j hj=>weak (ae1 6 _ _ (ad1 hall (by omega)) (h3 (off+j) (by omega)).2)
   ·rename_i n g;obtain ⟨ha,rfl⟩:=aa0 hp;obtain ⟨vs,T,fr,h1,h2,h3,h4⟩:=hok;exact .ref h1 (fun hb=>hb) (by omega) (fun j hj=>(h4 (off+j) (by omega)).1) fun j hj=>weak (h4 (off+j) (by omega)).2
  | osl he hv=>
   rename_i k ver us;simp only [peek] at hp;generalize hk:H.getD k .dead=so at hp;cases so<;>simp only [reduceCtorEq] at hp
   ·obtain ⟨rfl,rfl⟩:=aa0 hp;exact (aY2 h he (.inl ⟨_,_,hk,rfl⟩)).2
   ·obtain ⟨rfl,rfl⟩:=aa0 hp;exact (aY2 h he (.inr (.inl ⟨_,hk,rfl⟩))).2
   ·split at hp
    case h_2=>cases hp
    obtain ⟨rfl,rfl⟩:=aa0 hp;exact (aY2 h he (.inr (.inr ⟨_,_,_,_,_,_,hk,rfl⟩))).2
  | oslOld he hlt hv=>
   rename_i k ver ver' v' us;simp only [peek] at hp;generalize hk:H.getD k .dead=so at hp;cases so<;>simp only [reduceCtorEq] at hp
   ·obtain ⟨rfl,rfl⟩:=aa0 hp;exact (old he hlt (.inl ⟨_,_,hk,rfl⟩)).elim
   ·obtain ⟨rfl,rfl⟩:=aa0 hp;exact (old he hlt (.inr (.inl ⟨_,hk,rfl⟩))).elim
   ·split at hp
    case h_2=>cases hp
    obtain ⟨rfl,rfl⟩:=aa0 hp;exact (old he hlt (.inr (.inr ⟨_,_,_,_,_,_,hk,rfl⟩))).elim
  | ownAt=>simp [peek] at hp
  | con=>exact pu .con hp
  | slP=>simp [peek,ac6] at hp
  | refP=>simp [peek,ac6] at hp
  | ifc ho hr=>exact pu (.ifc ho hr) hp
  | pin=>simp [peek,ac6] at hp
  | part=>simp [peek,ac6] at hp
  | partOld=>simp [peek,ac6] at hp
  | omap=>simp [peek,ac6] at hp
  | omapOld=>simp [peek,ac6] at hp
  | ownAtOld=>simp [peek] at hp
  | win he hl ha h0=>
   rename_i k ver n lo len a a0 len0 cap0 us;simp only [peek] at hp;generalize hk:H.getD k .dead=so at hp;cases so<;>simp only [reduceCtorEq] at hp
   ·obtain ⟨⟨rfl,rfl⟩,rfl⟩:=aa0 hp;exact win he hl ha (.inl ⟨_,_,hk,rfl⟩)
   ·obtain ⟨⟨rfl,rfl⟩,rfl⟩:=aa0 hp;exact win he hl ha (.inr (.inl ⟨_,hk,rfl⟩))
   ·split at hp
    case h_2=>cases hp
    obtain ⟨⟨rfl,rfl⟩,rfl⟩:=aa0 hp;exact win he hl ha (.inr (.inr ⟨_,_,_,_,_,_,hk,rfl⟩))
  | nilsl=>exact pu .nilsl hp
  | slN hr=>exact pu (.slN hr) hp
  | winOld he hlt hv=>
   rename_i k ver ver' v' n lo len us;simp only [peek] at hp;generalize hk:H.getD k .dead=so at hp;cases so<;>simp only [reduceCtorEq] at hp
   ·obtain ⟨⟨rfl,rfl⟩,rfl⟩:=aa0 hp;exact (old he hlt (.inl ⟨_,_,hk,rfl⟩)).elim
   ·obtain ⟨⟨rfl,rfl⟩,rfl⟩:=aa0 hp;exact (old he hlt (.inr (.inl ⟨_,hk,rfl⟩))).elim
   ·split at hp
    case h_2=>cases hp
    obtain ⟨⟨rfl,rfl⟩,rfl⟩:=aa0 hp;exact (old he hlt (.inr (.inr ⟨_,_,_,_,_,_,hk,rfl⟩))).elim
theorem bF1 {H HF:List SO}(he:Ext H HF) {sv sv':SV}(hp:peek H sv=some sv'):peek HF sv=some sv':=by
 cases sv<;>simp only [peek,reduceCtorEq] at hp ⊢
 case own k off=>
  generalize hk:H.getD k .dead=so at hp;cases so<;>simp only [reduceCtorEq] at hp<;>rw [he k (by rw [hk]; simp),hk]<;>exact hp
 case osl k ver=>
  generalize hk:H.getD k .dead=so at hp;cases so<;>simp only [reduceCtorEq] at hp<;>rw [he k (by rw [hk]; simp),hk]<;>exact hp
 case win k ver n lo len=>
  generalize hk:H.getD k .dead=so at hp;cases so<;>simp only [reduceCtorEq] at hp<;>rw [he k (by rw [hk]; simp),hk]<;>exact hp
 all_goals exact hp
def as4 (H:List SO):List SV->Option (List SV)
 | []=>some []
 | s::r=>match peek H s with
  | some s'=>match as4 H r with
   | some r'=>some (s'::r')
   | none=>none
  | none=>none
def lend (s:FSpec):FSpec:={ f:=s.f,eff:=false,run:=fun l H nm=>match as4 H l with
  | some l'=>match s.run l' [] 0 with
    | some y=>match y.eff with
      | .keep=>match bE3 3 y.val with
        | true=>some ⟨y.ask,y.val,.keep⟩
        | false=>none
      | _=>none
    | none=>none
  | none=>none }
theorem aq1 {w0 X0 H E w} (h:Rep w0 X0 H E w):∀ {l l':List SV},as4 H l=some l'->l'.length=l.length/\∀ i v,i<l.length->R w (Xo X0 E H) E (l.getD i .any) v->R w (fun _=>False) E0 (l'.getD i .any) v
 | [],l',hp=>by cases hp; exact ⟨rfl,fun i v hi=>absurd hi (lj _)⟩
 | s::r,l',hp=>by
  simp only [as4] at hp;split at hp
  case h_2=>cases hp
  rename_i s' hs;split at hp
  case h_2=>cases hp
  rename_i r' hr;cases hp;obtain ⟨h1,h2⟩:=aq1 h hr;refine ⟨by simp [h1],fun i v hi hv=>?_⟩;cases i with
  | zero=>exact bl9 h _ _ _ hs hv
  | succ i=>exact h2 i v (by simpa using hi) hv
theorem av2 {H HF:List SO}(he:Ext H HF):∀ {l l':List SV},as4 H l=some l'->as4 HF l=some l'
 | [],l',hp=>hp
 | s::r,l',hp=>by
  simp only [as4] at hp ⊢;split at hp
  case h_2=>cases hp
  rename_i s' hs;split at hp
  case h_2=>cases hp
  rename_i r' hr;cases hp;rw [bF1 he hs,av2 he hr]
theorem bx5 {P:Program}{s:FSpec}(hs:aa2 P s):aa2 P (lend s):=by
 refine ⟨hs.1,fun l H HF nm y he hns hrun=>?_,fun l H nm y hrun hask w0 X0 E w hrep hfree vals ha=>?_⟩
 ·simp only [lend] at hrun ⊢;split at hrun
  case h_2=>cases hrun
  rename_i l' hl';rw [av2 he hl'];exact hrun
 ·simp only [lend] at hrun;split at hrun
  case h_2=>cases hrun
  rename_i l' hl';split at hrun
  case h_2=>cases hrun
  rename_i y' hy';split at hrun
  case h_2=>cases hrun
  rename_i hkeep;split at hrun
  case h_2=>cases hrun
  rename_i hsc;cases hrun;obtain ⟨p1,p2⟩:=aq1 hrep hl';have hrep0:Rep w (Fr.of fun _=>False) [] E0 w:=⟨Bel.refl _ _,fun b hb=>hb.elim,fun k e he=>(nomatch he),fun k e he=>(nomatch he),fun k e he=>(nomatch he),fun k e b he=>(nomatch he),fun k k' e e' b he=>(nomatch he)⟩
  have hno:∀ b,¬ Xo (Fr.of fun _=>False) E0 [] b:=fun b hb=>hb.elim id fun ⟨k,e,he,_⟩=>(nomatch he)
  refine (hs.2.2 l' [] 0 y' hy' hask w (Fr.of fun _=>False) E0 w hrep0 (fun so hso=>by rw [hkeep] at hso; cases hso) vals ⟨by rw [p1]; exact ha.1,fun i hi=>?_⟩).mono ?_
  ·rw [p1] at hi;exact (p2 i _ hi (ha.2 i hi)).mono (fun _ _ _=>rfl) (fun b _ hb=>(hno b hb).elim) (Env.le_refl _)
  ·rintro e w' ⟨v,rfl,E',_,_,_,hr,hv,_⟩;exact ⟨v,rfl,Goes.world hrep hr.below.all (aO5 3 _ _ hsc hv)⟩
end Sx
set_option linter.unusedSimpArgs false
set_option linter.unusedVariables false
namespace Img
open Go.RowKit Sx Num Aff Afi
set_option maxRecDepth 100000
structure Ink where
 c0:Int
 c1:Int
 c2:Int
 c3:Int
 c4:Int
 c5:Int
 c6:Int
 c7:Int
def inkD (f:Nat->SV):Ink:=⟨Sx.intOf (f 0),Sx.intOf (f 1),Sx.intOf (f 2),Sx.intOf (f 3),Sx.intOf (f 4),Sx.intOf (f 5),Sx.intOf (f 6),Sx.intOf (f 7)⟩
structure ImgG where
 w:Int
 h:Int
 n:Nat
 px:Nat->Ink
 sn:Nat
 sf:Nat->Int
 m:Mat
 smooth:Bool
 rep:Bool
def inkL (f:Ink):List SV:=[.int .u8 f.c0,.int .u8 f.c1,.int .u8 f.c2,.int .u8 f.c3,.int .u8 f.c4,.int .u8 f.c5,.int .u8 f.c6,.int .u8 f.c7]
def imgL (g:ImgG):List SV:=[.int .i64 g.w,.int .i64 g.h,.sl g.n 8 (fun i=>lst (inkL (g.px i))),.sl g.sn 1 (fun i _=> .int .u8 (g.sf i)),
 .int .i64 g.m.a,.int .i64 g.m.b,.int .i64 g.m.c,.int .i64 g.m.d,.int .i64 g.m.e,.int .i64 g.m.f,.bool g.smooth,.bool g.rep]
def imgS (g:ImgG):SV:= .agg 12 (lst (imgL g))
def pxD:SV->Nat->Ink
 | .sl _ _ f=>fun i=>inkD (f i)
 | _=>fun _=>⟨0,0,0,0,0,0,0,0⟩
def imgD (g:Nat->SV):ImgG:=⟨Sx.intOf (g 0),Sx.intOf (g 1),ai9 (g 2),pxD (g 2),ai9 (g 3),bM4 0 (g 3),⟨Sx.intOf (g 4),Sx.intOf (g 5),Sx.intOf (g 6),Sx.intOf (g 7),Sx.intOf (g 8),Sx.intOf (g 9)⟩,au7 (g 10),au7 (g 11)⟩
def ImgG.chk (g:ImgG):Int:=
 if g.w<1\/256<g.w\/g.h<1\/256<g.h then 3 else if (g.n:Int)≠g.w*g.h\/(g.sn≠0/\(g.sn:Int)≠g.w*g.h) then 4 else invE g.m
def bf0:FSpec:=aa3 54 (γ:=ImgG) (fun | [.agg _ g]=>some (imgD g) | _=>none) (fun g=>[imgS g]) (fun _=>True) (fun g=> .int .i64 g.chk)
theorem bw3:aa2 Tryz.prog bf0:=by
 refine ssW (specs:=[aS9]) (⟨aZ4,trivial⟩) Tryz.func54 (fun g=>A0) ?_;rintro g _;refine ab2 (B:=let T5:=fun p:Prop=>True/\True/\True/\True/\True/\p;let T7:=fun p:Prop=>True/\True/\True/\True/\True/\True/\True/\p;let T9:=fun p:Prop=>True/\True/\True/\True/\True/\True/\True/\True/\True/\p;let K:=Br;let A:=Sx.Ask;let z2:=((3:Int)=g.chk);let z0:=(IntKind.i64=IntKind.i64);let q0:=fun p:Int=>A z0/\A (p=p);let z1:=((((((((True/\q0 g.m.a)/\q0 g.m.b)/\q0 g.m.c)/\q0 g.m.d)/\q0 g.m.e)/\q0 g.m.f)/\True)/\A True);T5 (True/\K (decide (g.w<(1:Int))) (T7 (A z0/\A z2)) (T5 (K (decide ((256:Int)<g.w)) (T5 (A z0/\A z2)) (T5 (K (decide (g.h<(1:Int))) (True/\True/\True/\A z0/\A z2) (True/\True/\True/\True/\K (decide ((256:Int)<g.h)) (True/\True/\A z0/\A z2) (True/\True/\True/\True/\A ((-9223372036854775808:Int)<=g.w*g.h/\g.w*g.h<=(9223372036854775807:Int))/\T7 (K (decide ((↑g.n:Int)≠g.w*g.h)) (True/\True/\True/\A z0/\A ((4:Int)=g.chk)) (T5 (K (decide ((↑g.sn:Int)≠(0:Int))) (T7 (K (decide ((↑g.sn:Int)≠g.w*g.h)) (True/\True/\A z0/\A ((4:Int)=g.chk)) (True/\True/\z1/\T9 (A z0/\A (invE g.m=g.chk))))) (True/\True/\True/\True/\z1/\T9 (A z0/\A (invE g.m=g.chk)))))))))))))) (by kernel_rfl) ?_;simp only [cln];have hp:(1<=g.w/\g.w<=256)->(1<=g.h/\g.h<=256)->0<=g.w*g.h/\g.w*g.h<=256*256:=fun h1 h2=>⟨lQ (by omega) (by omega),xZ h1.2 h2.2 (by omega) (by omega)⟩
 unfold ImgG.chk;generalize hP:g.w*g.h=Q at hp ⊢;generalize invE g.m=E;refine ⟨fun h1=>by omega,fun h1=>⟨fun h2=>by omega,fun h2=>⟨fun h3=>by omega,fun h3=>⟨fun h4=>by omega,fun h4=>?_⟩⟩⟩⟩;have hq:=hp ⟨by omega,by omega⟩ ⟨by omega,by omega⟩;refine ⟨by omega,fun h5=>by omega,fun h5=>⟨fun h6=>⟨fun h7=>by omega,fun h7=>by omega⟩,fun h6=>by omega⟩⟩
structure SmG where
 g:ImgG
 u:Int
 v:Int
def ImgG.ok (g:ImgG):Prop:=((1<=g.w/\g.w<=256)/\1<=g.h/\g.h<=256)/\(g.n:Int)=g.w*g.h/\(g.sn=0\/(g.sn:Int)=g.w*g.h)/\∀ i,i<g.sn->0<=g.sf i/\g.sf i<=255
def SmG.ok (s:SmG):Prop:=s.g.ok/\(-1099511627776<=s.u/\s.u<=1099511627776)/\ -1099511627776<=s.v/\s.v<=1099511627776
def SmG.out (s:SmG):Bool:=!s.g.rep&&decide (s.u<0\/s.v<0\/s.g.w<=s.u\/s.g.h<=s.v)
def SmG.at (s:SmG):Nat:=(bif s.g.rep then (s.v % s.g.h)*s.g.w+s.u % s.g.w else s.v*s.g.w+s.u).toNat
def SmG.ink (s:SmG):Ink:=bif s.out then ⟨0,0,0,0,0,0,0,0⟩ else s.g.px s.at
def SmG.soft (s:SmG):Int:=bif s.out then 0 else if s.g.sn=0 then 255 else max 0 (min 255 (s.g.sf s.at))
def aS8:FSpec:=aa3 108 (γ:=SmG) (fun | [.agg _ g,.int _ u,.int _ v]=>some ⟨imgD g,u,v⟩ | _=>none) (fun s=>[imgS s.g,.int .i64 s.u,.int .i64 s.v]) SmG.ok (fun s=> .tup 2 (lst [.agg 8 (lst (inkL s.ink)),.int .u8 s.soft]))
theorem aZ3:aa2 Tryz.prog aS8:=by
 refine ssW (specs:=[bE1]) (⟨bv6,trivial⟩) Tryz.func108 (fun g=>A0) ?_;rintro ⟨g,u,v⟩ hs;refine ab2 (B:=let T3:=fun p:Prop=>True/\True/\True/\p;let T4:=fun p:Prop=>True/\True/\True/\True/\p;let T5:=fun p:Prop=>True/\True/\True/\True/\True/\p;let K:=Br;let A:=Sx.Ask;let z13:=(True/\True);let z12:=(IntKind.i64=IntKind.i64);let q12:=fun p:Int=>A z12/\A (p=p);let z11:=(0:Int);let z15:=(z11<=v*g.w+u/\v*g.w+u<(↑g.n:Int));let z10:=(u-u / g.w*g.w);let z9:=(g.px (v*g.w+u).toNat);let z8:=(v-v / g.h*g.h);let z14:=(z11<=z8*g.w+z10/\z8*g.w+z10<(↑g.n:Int));let z7:=(-9223372036854775808:Int);let z6:=(9223372036854775807:Int);let z5:=(SmG.mk g u v);let z16:=(z11=z5.soft);let z4:=(g.px (z8*g.w+z10).toNat);let z3:=(IntKind.u8=IntKind.u8);let z2:=(True/\(((((((True/\A z3/\A (z9.c0=z5.ink.c0))/\A z3/\A (z9.c1=z5.ink.c1))/\A z3/\A (z9.c2=z5.ink.c2))/\A z3/\A (z9.c3=z5.ink.c3))/\A z3/\A (z9.c4=z5.ink.c4))/\A z3/\A (z9.c5=z5.ink.c5))/\A z3/\A (z9.c6=z5.ink.c6))/\A z3/\A (z9.c7=z5.ink.c7));let z1:=(True/\(((((((True/\A z3/\A (z4.c0=z5.ink.c0))/\A z3/\A (z4.c1=z5.ink.c1))/\A z3/\A (z4.c2=z5.ink.c2))/\A z3/\A (z4.c3=z5.ink.c3))/\A z3/\A (z4.c4=z5.ink.c4))/\A z3/\A (z4.c5=z5.ink.c5))/\A z3/\A (z4.c6=z5.ink.c6))/\A z3/\A (z4.c7=z5.ink.c7));let z0:=(True/\(((((((True/\A z3/\A (z11=z5.ink.c0))/\A z3/\A (z11=z5.ink.c1))/\A z3/\A (z11=z5.ink.c2))/\A z3/\A (z11=z5.ink.c3))/\A z3/\A (z11=z5.ink.c4))/\A z3/\A (z11=z5.ink.c5))/\A z3/\A (z11=z5.ink.c6))/\A z3/\A (z11=z5.ink.c7));T5 (K g.rep (T4 ((((q12 u)/\(q12 g.w)/\True)/\A (((-4611686018427387904:Int)<=u/\u<=(4611686018427387904:Int))/\(1:Int)<=g.w/\g.w<=z6))/\True/\True/\A (z7<=u / g.w*g.w/\u / g.w*g.w<=z6)/\A (z7<=u-u / g.w*g.w/\u-u / g.w*g.w<=z6)/\T4 ((((q12 v)/\(q12 g.h)/\True)/\A (((-4611686018427387904:Int)<=v/\v<=(4611686018427387904:Int))/\(1:Int)<=g.h/\g.h<=z6))/\True/\True/\A (z7<=v / g.h*g.h/\v / g.h*g.h<=z6)/\A (z7<=v-v / g.h*g.h/\v-v / g.h*g.h<=z6)/\T5 (A (z7<=z8*g.w/\z8*g.w<=z6)/\True/\A (z7<=z8*g.w+z10/\z8*g.w+z10<=z6)/\T5 (K (decide ((↑g.sn:Int)=z11)) (T3 (A z14/\T3 (z13/\z1/\A z3/\A ((255:Int)=z5.soft)))) (T3 (A z14/\T4 (A (z11<=z8*g.w+z10/\z8*g.w+z10<(↑g.sn:Int))/\T3 (z13/\z1/\A z3/\A (g.sf (z8*g.w+z10).toNat=z5.soft)))))))))) (T3 (K (decide (u<z11)) (T5 (T3 (z13/\z0/\A z3/\A z16))) (T4 (K (decide (v<z11)) (T5 (True/\z13/\z0/\A z3/\A z16)) (T5 (True/\K (decide (g.w<=u)) (T4 (z13/\z0/\A z3/\A z16)) (T5 (K (decide (g.h<=v)) (T3 (z13/\z0/\A z3/\A z16)) (T3 (A (z7<=v*g.w/\v*g.w<=z6)/\True/\A (z7<=v*g.w+u/\v*g.w+u<=z6)/\T5 (K (decide ((↑g.sn:Int)=z11)) (T3 (A z15/\T3 (z13/\z2/\A z3/\A ((255:Int)=z5.soft)))) (T3 (A z15/\T4 (A (z11<=v*g.w+u/\v*g.w+u<(↑g.sn:Int))/\T3 (z13/\z2/\A z3/\A (g.sf (v*g.w+u).toNat=z5.soft)))))))))))))))))) (by kernel_rfl) ?_;simp only [cln];obtain ⟨⟨⟨⟨w1,w2⟩,h1,h2⟩,hn,hsn,hsf⟩,⟨hu,hu'⟩,hv,hv'⟩:=hs;simp only at w1 w2 h1 h2 hn hsn hsf hu hu' hv hv'
 have mu:=Int.emod_add_mul_ediv u g.w;have mv:=Int.emod_add_mul_ediv v g.h;have bu:=xQ u (b:=g.w) (by omega);have bu':=xJ u (b:=g.w) (by omega);have bv:=xQ v (b:=g.h) (by omega);have bv':=xJ v (b:=g.h) (by omega);rw [uE] at mu mv;have eu:u-u / g.w*g.w=u % g.w:=by omega
 have ev:v-v / g.h*g.h=v % g.h:=by omega
 simp only [eu,ev];have rb:∀ a b:Int,0<=a->a<g.h->0<=b->b<g.w->0<=a*g.w/\a*g.w+b<g.n/\g.n<=65536/\(g.sn=0\/a*g.w+b<g.sn/\g.sn<=65536):=fun a b a1 a2 b1 b2=>by
  have q0:0<=a*g.w:=lQ a1 (by omega);have q1:(a+1)*g.w<=g.h*g.w:=lT (by omega) (by omega);have q2:g.w*g.h<=256*256:=xZ w2 h2 (by omega) (by omega);rw [Int.add_mul,uE g.h] at q1;omega
 have out0:g.rep=false->(u<0\/v<0\/g.w<=u\/g.h<=v)->(⟨0,0,0,0,0,0,0,0⟩:Ink)=SmG.ink ⟨g,u,v⟩/\0=SmG.soft ⟨g,u,v⟩:=fun hr ho=>by
  have e:SmG.out ⟨g,u,v⟩=true:=by unfold SmG.out; rw [hr]; exact lk ho
  unfold SmG.ink SmG.soft;rw [e];exact ⟨rfl,rfl⟩
 have sfm:∀ j:Nat,j<g.sn->g.sf j=max 0 (min 255 (g.sf j)):=fun j hj=>by have:=hsf j hj; omega
 have in0:g.rep=false->¬(u<0\/v<0\/g.w<=u\/g.h<=v)->(g.sn=0->g.px (v*g.w+u).toNat=SmG.ink ⟨g,u,v⟩/\255=SmG.soft ⟨g,u,v⟩)/\(g.sn≠0->(v*g.w+u).toNat<g.sn->g.px (v*g.w+u).toNat=SmG.ink ⟨g,u,v⟩/\g.sf (v*g.w+u).toNat=SmG.soft ⟨g,u,v⟩):=fun hr ho=>by
  have e:SmG.out ⟨g,u,v⟩=false:=by unfold SmG.out; rw [hr]; exact li ho
  unfold SmG.ink SmG.soft SmG.at;rw [e,hr];exact ⟨fun hz=>⟨rfl,(lg hz).symm⟩,fun hz hl=>⟨rfl,(sfm _ hl).trans (lb hz).symm⟩⟩
 have in1:g.rep=true->(g.sn=0->g.px (v % g.h*g.w+u % g.w).toNat=SmG.ink ⟨g,u,v⟩/\255=SmG.soft ⟨g,u,v⟩)/\(g.sn≠0->(v % g.h*g.w+u % g.w).toNat<g.sn->g.px (v % g.h*g.w+u % g.w).toNat=SmG.ink ⟨g,u,v⟩/\g.sf (v % g.h*g.w+u % g.w).toNat=SmG.soft ⟨g,u,v⟩):=fun hr=>by
  have e:SmG.out ⟨g,u,v⟩=false:=by unfold SmG.out; rw [hr]; rfl
  unfold SmG.ink SmG.soft SmG.at;rw [e,hr];exact ⟨fun hz=>⟨rfl,(lg hz).symm⟩,fun hz hl=>⟨rfl,(sfm _ hl).trans (lb hz).symm⟩⟩
 have all:∀ {f k:Ink}{a b:Int},f=k/\a=b->(((((((f.c0=k.c0/\f.c1=k.c1)/\f.c2=k.c2)/\f.c3=k.c3)/\f.c4=k.c4)/\f.c5=k.c5)/\f.c6=k.c6)/\f.c7=k.c7)/\a=b:=fun h=>by rw [h.1]; exact ⟨⟨⟨⟨⟨⟨⟨⟨rfl,rfl⟩,rfl⟩,rfl⟩,rfl⟩,rfl⟩,rfl⟩,rfl⟩,h.2⟩
 refine ⟨fun hr=>?_,fun hr=>⟨fun c1=>all (out0 hr (by omega)),fun c1=>⟨fun c2=>all (out0 hr (by omega)),fun c2=>⟨fun c3=>all (out0 hr (by omega)),fun c3=>⟨fun c4=>all (out0 hr (by omega)),fun c4=>?_⟩⟩⟩⟩⟩
 ·have r:=rb _ _ bv bv' bu bu';exact ⟨by omega,by omega,by omega,by omega,by omega,by omega,by omega,by omega,fun h=>⟨by omega,all ((in1 hr).1 (by omega))⟩,fun h=>⟨by omega,by omega,all ((in1 hr).2 (by omega) (by omega))⟩⟩
 ·have r:=rb v u (by omega) (by omega) (by omega) (by omega);exact ⟨by omega,by omega,fun h=>⟨by omega,all ((in0 hr (by omega)).1 (by omega))⟩,fun h=>⟨by omega,by omega,all ((in0 hr (by omega)).2 (by omega) (by omega))⟩⟩
end Img
set_option linter.unusedSimpArgs false
set_option linter.unusedVariables false
namespace Imh
open Go.RowKit Sx Num Aff Afi Img
set_option maxRecDepth 100000
def bE2:FSpec:=aa3 80 (γ:=ImgG) (fun | [.agg _ g]=>some (imgD g) | _=>none) (fun g=>[imgS g]) (fun _=>True) (fun g=> .agg 18 (lst (imgL g++matL (invM g.m))))
theorem bv9:aa2 Tryz.prog bE2:=by
 refine ssW (specs:=[aS9]) (⟨aZ4,trivial⟩) Tryz.func80 (fun g=>A0) ?_;rintro g _;refine ab2 (B:=let K:=IntKind.i64;let A:=Sx.Ask;True/\True/\True/\True/\((((((((True/\A (K=K)/\A (g.m.a=g.m.a))/\A (K=K)/\A (g.m.b=g.m.b))/\A (K=K)/\A (g.m.c=g.m.c))/\A (K=K)/\A (g.m.d=g.m.d))/\A (K=K)/\A (g.m.e=g.m.e))/\A (K=K)/\A (g.m.f=g.m.f))/\True)/\A True)/\True/\True/\True/\True/\True/\True/\True/\True/\True/\True/\(True/\True)/\(((((((((((((((((True/\A (K=K)/\A (g.w=g.w))/\A (K=K)/\A (g.h=g.h))/\A (g.n=g.n)/\∀ i:Nat,i<g.n->(((((((True/\A (IntKind.u8=IntKind.u8)/\A ((g.px i).c0=(g.px i).c0))/\A (IntKind.u8=IntKind.u8)/\A ((g.px i).c1=(g.px i).c1))/\A (IntKind.u8=IntKind.u8)/\A ((g.px i).c2=(g.px i).c2))/\A (IntKind.u8=IntKind.u8)/\A ((g.px i).c3=(g.px i).c3))/\A (IntKind.u8=IntKind.u8)/\A ((g.px i).c4=(g.px i).c4))/\A (IntKind.u8=IntKind.u8)/\A ((g.px i).c5=(g.px i).c5))/\A (IntKind.u8=IntKind.u8)/\A ((g.px i).c6=(g.px i).c6))/\A (IntKind.u8=IntKind.u8)/\A ((g.px i).c7=(g.px i).c7))/\A (g.sn=g.sn)/\∀ i:Nat,i<g.sn->True/\A (IntKind.u8=IntKind.u8)/\A (g.sf i=g.sf i))/\A (K=K)/\A (g.m.a=g.m.a))/\A (K=K)/\A (g.m.b=g.m.b))/\A (K=K)/\A (g.m.c=g.m.c))/\A (K=K)/\A (g.m.d=g.m.d))/\A (K=K)/\A (g.m.e=g.m.e))/\A (K=K)/\A (g.m.f=g.m.f))/\A (g.smooth=g.smooth))/\A (g.rep=g.rep))/\A (K=K)/\A ((Go.Proofs.YthappngbapbkfaaGreat.Afi.invM g.m).a=(Go.Proofs.YthappngbapbkfaaGreat.Afi.invM g.m).a))/\A (K=K)/\A ((Go.Proofs.YthappngbapbkfaaGreat.Afi.invM g.m).b=(Go.Proofs.YthappngbapbkfaaGreat.Afi.invM g.m).b))/\A (K=K)/\A ((Go.Proofs.YthappngbapbkfaaGreat.Afi.invM g.m).c=(Go.Proofs.YthappngbapbkfaaGreat.Afi.invM g.m).c))/\A (K=K)/\A ((Go.Proofs.YthappngbapbkfaaGreat.Afi.invM g.m).d=(Go.Proofs.YthappngbapbkfaaGreat.Afi.invM g.m).d))/\A (K=K)/\A ((Go.Proofs.YthappngbapbkfaaGreat.Afi.invM g.m).e=(Go.Proofs.YthappngbapbkfaaGreat.Afi.invM g.m).e))/\A (K=K)/\A ((Go.Proofs.YthappngbapbkfaaGreat.Afi.invM g.m).f=(Go.Proofs.YthappngbapbkfaaGreat.Afi.invM g.m).f)) (by kernel_rfl) ?_;simp only [cln]
structure InksG where
 n:Nat
 px:Nat->Ink
structure BoxG where
 w:Int
 h:Int
 n:Nat
 px:Nat->Ink
 x:Int
 y:Int
 k:Int
def BoxG.img (b:BoxG):ImgG:=⟨b.w,b.h,b.n,b.px,0,fun _=>0,⟨4096*b.k,0,0,4096*b.k,4096*b.x,4096*b.y⟩,false,false⟩
def BoxG.ok (b:BoxG):Prop:=(((1<=b.k/\b.k<=256)/\bits .and .i64 b.k (b.k-1)=0)/\(-8192<=b.x/\b.x<=8192)/\ -8192<=b.y/\b.y<=8192)/\b.n<=4294967296/\b.img.chk=0
end Imh
set_option linter.unusedSimpArgs false
set_option linter.unusedVariables false
namespace Blend
open Go.RowKit Num
def aN0 (b s:Int):Int:=if s<=127 then aa9 b (2*s) else 255-aa9 (255-b) (2*(255-s))
def aE1 (b s:Int):Int:=if b=0 then 0 else if 255-s<=b then 255 else nr (255*b) (255-s)
def a57 (b s:Int):Int:=if b=255 then 255 else if s<=255-b then 0 else 255-nr (255*(255-b)) s
def af5 (k:Nat) (b s:Int):Int:=
 match k with
 | 0=>s
 | 1=>aa9 b s
 | 2=>255-aa9 (255-b) (255-s)
 | 3=>aN0 s b
 | 4=>if b<=s then b else s
 | 5=>if b<=s then s else b
 | 6=>aE1 b s
 | 7=>a57 b s
 | 8=>aN0 b s
 | 9=>nr ((255-2*s)*b*b+510*s*b) 65025
 | 10=>if b<=s then s-b else b-s
 | _=>b+s-nr (2*b*s) 255
def aa4 (k:Nat):Nat:=
 match k with
 | 0=>131
 | 1=>132
 | 2=>133
 | 3=>134
 | 4=>136
 | 5=>137
 | 6=>138
 | 7=>139
 | 8=>135
 | 9=>140
 | 10=>141
 | _=>142
def Does (F:Nat) (f:Int->Int->Int):Prop:=∀ (b s:Int) (w:World),0<=b->b<=255->0<=s->s<=255->
 Calls Tryz.prog F #[.int .i64 b,.int .i64 s] w fun e w'=>e = .returned (.int .i64 (f b s))/\w=w'
theorem aT8 (a b:Int) (w:World) (h1:0<=a) (h2:a<=255) (h3:0<=b) (h4:b<=255) :
  Calls Tryz.prog 132 #[.int .i64 a,.int .i64 b] w fun e w'=>e = .returned (.int .i64 (aa9 a b))/\w=w':=by
 obtain ⟨r1,r2⟩:=ad4 h1 h2 h3 h4;go_enter Tryz.func132,Tryz.ntmps132
 go_wp2_with fail
 refine (bn0 _ _ _ h1 h2 h3 h4).mono ?_;rintro e w' ⟨rfl,rfl⟩;go_wp2
 go_ret
 exact ⟨rfl,rfl⟩
theorem bh5 (b s:Int) (w:World) (h1:0<=b) (h2:b<=255) (h3:0<=s) (h4:s<=255) :
  Calls Tryz.prog 135 #[.int .i64 b,.int .i64 s] w fun e w'=>e = .returned (.int .i64 (aN0 b s))/\w=w':=by
 by_cases h:s<=127
 ·have H:Hid (aa9 b (2*s)=aN0 b s):=by unfold aN0; rw [lg h]; exact rfl
  go_enter Tryz.func135,Tryz.ntmps135
  go_wp2_with fail
  refine (aT8 _ _ _ h1 h2 (by omega) (by omega)).mono ?_;rintro e w' ⟨rfl,rfl⟩;go_wp2
  go_ret
  exact ⟨ag1 H.out,rfl⟩
 ·have H:Hid (255-aa9 (255-b) (2*(255-s))=aN0 b s):=by unfold aN0; rw [lb h]; exact rfl
  obtain ⟨r1,r2⟩:=ad4 (a:=255-b) (b:=2*(255-s)) (by omega) (by omega) (by omega) (by omega);go_enter Tryz.func135,Tryz.ntmps135
  go_wp2_with fail
  refine (aT8 _ _ _ (by omega) (by omega) (by omega) (by omega)).mono ?_;rintro e w' ⟨rfl,rfl⟩;go_wp2
  go_ret
  exact ⟨ag1 H.out,rfl⟩
theorem does0:Does (aa4 0) (af5 0):=by
 intro b s w h1 h2 h3 h4;unfold aa4 af5;go_enter Tryz.func131,Tryz.ntmps131
 go_wp2
 go_ret
 exact ⟨rfl,rfl⟩
theorem does1:Does (aa4 1) (af5 1):=fun b s w h1 h2 h3 h4=>aT8 b s w h1 h2 h3 h4
theorem does2:Does (aa4 2) (af5 2):=by
 intro b s w h1 h2 h3 h4;unfold aa4 af5;obtain ⟨r1,r2⟩:=ad4 (a:=255-b) (b:=255-s) (by omega) (by omega) (by omega) (by omega);go_enter Tryz.func133,Tryz.ntmps133
 go_wp2_with fail
 refine (aT8 _ _ _ (by omega) (by omega) (by omega) (by omega)).mono ?_;rintro e w' ⟨rfl,rfl⟩;go_wp2
 go_ret
 exact ⟨rfl,rfl⟩
theorem does3:Does (aa4 3) (af5 3):=by
 intro b s w h1 h2 h3 h4;unfold aa4 af5;go_enter Tryz.func134,Tryz.ntmps134
 go_wp2_with fail
 refine (bh5 _ _ _ h3 h4 h1 h2).mono ?_;rintro e w' ⟨rfl,rfl⟩;go_wp2
 go_ret
 exact ⟨rfl,rfl⟩
theorem does4:Does (aa4 4) (af5 4):=by
 intro b s w h1 h2 h3 h4;unfold aa4 af5;go_enter Tryz.func136,Tryz.ntmps136
 go_wp2
 all_goals (go_ret; exact ⟨rfl,rfl⟩)
theorem does5:Does (aa4 5) (af5 5):=by
 intro b s w h1 h2 h3 h4;unfold aa4 af5;go_enter Tryz.func137,Tryz.ntmps137
 go_wp2
 all_goals (go_ret; exact ⟨ag1 (by first | rfl | omega),rfl⟩)
theorem does6:Does (aa4 6) (af5 6):=by
 intro b s w h1 h2 h3 h4;unfold aa4;by_cases g1:b=0
 ·have H:Hid (0=af5 6 b s):=by show _=aE1 b s; unfold aE1; rw [lg g1]
  have g2:(b==0)=true:=by simp [g1]
  clear g1;go_enter Tryz.func138,Tryz.ntmps138
  go_wp2
  go_ret
  exact ⟨ag1 H.out,rfl⟩
 ·have g2:(b==0)=false:=by simp [g1]
  by_cases g3:255-s<=b
  ·have H:Hid (255=af5 6 b s):=by show _=aE1 b s; unfold aE1; rw [lb g1,lg g3]
   go_enter Tryz.func138,Tryz.ntmps138
   go_wp2
   go_ret
   exact ⟨ag1 H.out,rfl⟩
  ·have H:Hid (nr (255*b) (255-s)=af5 6 b s):=by show _=aE1 b s; unfold aE1; rw [lb g1,lb g3]
   go_enter Tryz.func138,Tryz.ntmps138
   go_wp2_with fail
   refine (near _ _ _ (by omega) (by omega) (by omega) (by omega)).mono ?_;rintro e w' ⟨rfl,rfl⟩;go_wp2
   go_ret
   exact ⟨ag1 H.out,rfl⟩
theorem ai4 {a b:Int}(hb:1<=b) (h0:0<=a) (h1:a<=255*b):0<=nr a b/\nr a b<=255:=by
 have hs:=aJ0 a b hb;generalize nr a b=m at *
 constructor
 ·refine Int.not_lt.1 fun hc=>?_
  have:m*b<=(-1)*b:=lT (by omega) (by omega)
  omega
 ·refine Int.not_lt.1 fun hc=>?_
  have:256*b<=m*b:=lT (by omega) (by omega)
  omega
theorem does7:Does (aa4 7) (af5 7):=by
 intro b s w h1 h2 h3 h4;unfold aa4;by_cases g1:b=255
 ·have H:Hid (255=af5 7 b s):=by show _=a57 b s; unfold a57; rw [lg g1]
  have g2:(b==255)=true:=by simp [g1]
  clear g1;go_enter Tryz.func139,Tryz.ntmps139
  go_wp2
  go_ret
  exact ⟨ag1 H.out,rfl⟩
 ·have g2:(b==255)=false:=by simp [g1]
  by_cases g3:s<=255-b
  ·have H:Hid (0=af5 7 b s):=by show _=a57 b s; unfold a57; rw [lb g1,lg g3]
   go_enter Tryz.func139,Tryz.ntmps139
   go_wp2
   go_ret
   exact ⟨ag1 H.out,rfl⟩
  ·have H:Hid (255-nr (255*(255-b)) s=af5 7 b s):=by show _=a57 b s; unfold a57; rw [lb g1,lb g3]
   obtain ⟨r1,r2⟩:=ai4 (a:=255*(255-b)) (b:=s) (by omega) (by omega) (by omega);go_enter Tryz.func139,Tryz.ntmps139
   go_wp2_with fail
   refine (near _ _ _ (by omega) (by omega) (by omega) (by omega)).mono ?_;rintro e w' ⟨rfl,rfl⟩;go_wp2
   go_ret
   exact ⟨ag1 H.out,rfl⟩
theorem does8:Does (aa4 8) (af5 8):=fun b s w h1 h2 h3 h4=>bh5 b s w h1 h2 h3 h4
theorem aI1 {b s:Int}(h1:0<=b) (h2:b<=255) (h3:0<=s) (h4:s<=255) :
  -65025<=(255-2*s)*b/\(255-2*s)*b<=65025/\0<=s*b/\s*b<=65025/\ -16581375<=(255-2*s)*b*b/\(255-2*s)*b*b<=16581375/\
  0<=(255-2*s)*b*b+510*s*b/\(255-2*s)*b*b+510*s*b<=255*65025:=by
 obtain ⟨p1,p2⟩:=aI7 h3 h4 h1 h2;obtain ⟨p3,p4⟩:=aI7 h1 h2 h1 h2;have e1:(255-2*s)*b=255*b-2*(s*b):=by grind
 have e2:(255-2*s)*b*b=255*(b*b)-2*(s*(b*b)):=by grind
 have e3:510*s*b=510*(s*b):=by grind
 obtain ⟨p5,p6⟩:=aI7 h3 h4 p3 p4;have e4:s*(b*b)=b*(s*b):=by grind
 have p7:b*(s*b)<=255*(s*b):=lT h2 p1;have p9:s*b<=255*b:=lT h4 h1;have p10:s*(b*b)<=255*(b*b):=lT h4 p3;have e5:255*65025-(255*(b*b)-2*(s*(b*b))+510*(s*b))=(255-b)*(255*(255+b)-2*(s*b)):=by grind
 have p8:0<=(255-b)*(255*(255+b)-2*(s*b)):=by
  refine lQ (by omega) ?_;have:s*b<=255*b:=lT h4 h1
  omega
 omega
theorem does9:Does (aa4 9) (af5 9):=by
 intro b s w h1 h2 h3 h4;unfold aa4 af5;obtain ⟨k1,k2,k3,k4,k5,k6,k7,k8⟩:=aI1 h1 h2 h3 h4;have e3:510*s*b=510*(s*b):=by grind
 have k9:0<=510*s*b/\510*s*b<=33162750:=by omega
 obtain ⟨k9,k10⟩:=k9;clear e3;go_enter Tryz.func140,Tryz.ntmps140
 go_wp2_with fail
 refine (near _ 65025 _ (by omega) (by omega) (by omega) (by omega)).mono ?_;rintro e w' ⟨rfl,rfl⟩;go_wp2
 go_ret
 exact ⟨rfl,rfl⟩
theorem b73:Does (aa4 10) (af5 10):=by
 intro b s w h1 h2 h3 h4;unfold aa4 af5;go_enter Tryz.func141,Tryz.ntmps141
 go_wp2
 all_goals (go_ret; exact ⟨ag1 (by first | rfl | (split<;>omega) | omega),rfl⟩)
theorem b72:Does (aa4 11) (af5 11):=by
 intro b s w h1 h2 h3 h4;unfold aa4 af5;obtain ⟨p1,p2⟩:=aI7 h1 h2 h3 h4;have e1:2*b*s=2*(b*s):=by grind
 have k:0<=2*b*s/\2*b*s<=130050:=by omega
 obtain ⟨k1,k2⟩:=k;have r:=aJ0 (2*b*s) 255 (by omega);have r3:0<=nr (2*b*s) 255/\nr (2*b*s) 255<=510:=by omega
 obtain ⟨r1,r2⟩:=r3;clear e1 r;go_enter Tryz.func142,Tryz.ntmps142
 go_wp2_with fail
 refine (near _ 255 _ (by omega) (by omega) (by omega) (by omega)).mono ?_;rintro e w' ⟨rfl,rfl⟩;go_wp2
 go_ret
 exact ⟨rfl,rfl⟩
theorem does:∀ k:Nat,k<12->Does (aa4 k) (af5 k)
 | 0,_=>does0
 | 1,_=>does1
 | 2,_=>does2
 | 3,_=>does3
 | 4,_=>does4
 | 5,_=>does5
 | 6,_=>does6
 | 7,_=>does7
 | 8,_=>does8
 | 9,_=>does9
 | 10,_=>b73
 | 11,_=>b72
 | n+12,h=>absurd h (by omega)
theorem aQ1 {b s:Int}(h1:0<=b) (h2:b<=255) (h3:0<=s) (h4:s<=255):0<=aN0 b s/\aN0 b s<=255:=by
 unfold aN0;split
 ·exact ad4 h1 h2 (by omega) (by omega)
 ·have:=ad4 (a:=255-b) (b:=2*(255-s)) (by omega) (by omega) (by omega) (by omega)
  omega
theorem aJ5 {k:Nat}{b s:Int}(hk:k<12) (h1:0<=b) (h2:b<=255) (h3:0<=s) (h4:s<=255):0<=af5 k b s/\af5 k b s<=255:=by
 match k,hk with
 | 0,_=>exact ⟨h3,h4⟩
 | 1,_=>exact ad4 h1 h2 h3 h4
 | 2,_=>
  have:=ad4 (a:=255-b) (b:=255-s) (by omega) (by omega) (by omega) (by omega)
  simp only [af5]; omega
 | 3,_=>exact aQ1 h3 h4 h1 h2
 | 4,_=>simp only [af5]; split<;>omega
 | 5,_=>simp only [af5]; split<;>omega
 | 6,_=>
  simp only [af5,aE1];split
  ·omega
  ·split
   ·omega
   ·exact ai4 (by omega) (by omega) (by omega)
 | 7,_=>
  simp only [af5,a57];split
  ·omega
  ·split
   ·omega
   ·have:=ai4 (a:=255*(255-b)) (b:=s) (by omega) (by omega) (by omega)
    omega
 | 8,_=>exact aQ1 h1 h2 h3 h4
 | 9,_=>
  obtain ⟨_,_,_,_,_,_,k7,k8⟩:=aI1 h1 h2 h3 h4;exact ai4 (by omega) k7 k8
 | 10,_=>simp only [af5]; split<;>omega
 | 11,_=>
  have e1:2*b*s=2*(b*s):=by grind
  obtain ⟨p1,p2⟩:=aI7 h1 h2 h3 h4;have r:=aJ0 (2*b*s) 255 (by omega);have p3:b*s<=255*s:=lT h2 h3;have p4:b*s<=b*255:=lE h4 h1;have e5:(255-b)*(255-s)=65025-255*b-255*s+b*s:=by grind
  have p5:0<=(255-b)*(255-s):=lQ (by omega) (by omega);simp only [af5];omega
theorem bn1:∀ (k:Nat),k<12->∀ (args:Array Value) (w:World),Sem.run Tryz.prog (callFunc (aa4 k) args) w = .ok (.enter (aa4 k) args) w
 | 0,_,_,_=>by kernel_rfl
 | 1,_,_,_=>by kernel_rfl
 | 2,_,_,_=>by kernel_rfl
 | 3,_,_,_=>by kernel_rfl
 | 4,_,_,_=>by kernel_rfl
 | 5,_,_,_=>by kernel_rfl
 | 6,_,_,_=>by kernel_rfl
 | 7,_,_,_=>by kernel_rfl
 | 8,_,_,_=>by kernel_rfl
 | 9,_,_,_=>by kernel_rfl
 | 10,_,_,_=>by kernel_rfl
 | 11,_,_,_=>by kernel_rfl
 | n+12,h,_,_=>absurd h (by omega)
theorem bc5 (k:Nat) (b s:Int) (p:Addr) (w:World) (hk:k<12) (h1:0<=b) (h2:b<=255) (h3:0<=s) (h4:s<=255)
  (hc:w.cell? p=some (.func (.func (aa4 k)) #[] #[])) :
  Calls Tryz.prog 112 #[.int .u8 b,.int .u8 s,.pointer (some p)] w fun e w'=>e = .returned (.int .u8 (af5 k b s))/\w=w':=by
 have hd:=Lib.hid (does k hk);have hcf:=bn1 k hk;obtain ⟨r1,r2⟩:=aJ5 hk h1 h2 h3 h4;generalize af5 k=f at *
 generalize aa4 k=F at *
 go_enter Tryz.func112,Tryz.ntmps112
 go_wp2_with fail
 refine (hd.out _ _ _ h1 h2 h3 h4).mono ?_;rintro e w1 ⟨rfl,rfl⟩;go_wp2
 go_ret
 exact ⟨rfl,rfl⟩
end Blend
set_option linter.unusedSimpArgs false
set_option linter.unusedVariables false
namespace Ble
open Go.RowKit Sx Num Aff Blend
set_option maxRecDepth 100000
theorem u8w {x:Int}(h1:0<=x) (h2:x<=255):IntKind.u8.wrap x=x:=by
 rw [IntKind.wrap_u8]; omega
def fnS (F:Nat):SV:= .fn F 0 (lst [])
def bg8 (F:Nat):SV:= .fn 112 1 (lst [.ref 1 (lst [fnS F])])
def bh3 (F:Nat):SV:= .fn 86 1 (lst [.ref 1 (lst [bg8 F])])
def bs7:FSpec:=aa3 111 (γ:=Unit) (fun _=>some ()) (fun _=>[]) (fun _=>True) (fun _=> .agg 12 (lst [fnS (aa4 0),fnS (aa4 1),fnS (aa4 2),fnS (aa4 3),fnS (aa4 4),fnS (aa4 5),fnS (aa4 6),fnS (aa4 7),fnS (aa4 8),fnS (aa4 9),fnS (aa4 10),fnS (aa4 11)]))
theorem bG2:aa2 Tryz.prog bs7:=by
 refine ssW (specs:=[]) trivial Tryz.func111 (fun _=>A0) ?_;intro _ _;refine ab2 (B:=let A:=Sx.Ask;True/\True/\True/\(True/\True)/\(((((((((((True/\A ((131:Nat)=Blend.aa4 (0:Nat))/\True)/\A ((132:Nat)=Blend.aa4 (1:Nat))/\True)/\A ((133:Nat)=Blend.aa4 (2:Nat))/\True)/\A ((134:Nat)=Blend.aa4 (3:Nat))/\True)/\A ((136:Nat)=Blend.aa4 (4:Nat))/\True)/\A ((137:Nat)=Blend.aa4 (5:Nat))/\True)/\A ((138:Nat)=Blend.aa4 (6:Nat))/\True)/\A ((139:Nat)=Blend.aa4 (7:Nat))/\True)/\A ((135:Nat)=Blend.aa4 (8:Nat))/\True)/\A ((140:Nat)=Blend.aa4 (9:Nat))/\True)/\A ((141:Nat)=Blend.aa4 (10:Nat))/\True)/\A ((142:Nat)=Blend.aa4 (11:Nat))/\True) (by kernel_rfl) ?_;simp [ac9,ae4,aa4]
def bL0:FSpec:=aa3 85 (γ:=Int) (fun | [.int _ k]=>some k | _=>none) (fun k=>[.int .i64 k]) (fun k=>0<=k/\k<=11) (fun k=> .tup 2 (lst [bg8 (aa4 k.toNat),.int .i64 0]))
theorem bS6:aa2 Tryz.prog bL0:=by
 refine ssW (specs:=[bs7]) (⟨bG2,trivial⟩) Tryz.func85 (fun _=>A0) ?_;rintro k ⟨h1,h2⟩;have h:k=0\/k=1\/k=2\/k=3\/k=4\/k=5\/k=6\/k=7\/k=8\/k=9\/k=10\/k=11:=by omega
 rcases h with rfl | rfl | rfl | rfl | rfl | rfl | rfl | rfl | rfl | rfl | rfl | rfl
 ·clear h1 h2;refine ab2 (B:=let A:=Sx.Ask;True/\True/\True/\True/\True/\True/\True/\True/\(True/\A True)/\True/\A ((0:Int)<=(0:Int)/\(0:Int)<(↑(12:Nat):Int))/\True/\True/\True/\True/\True/\True/\(True/\A ((112:Nat)=(112:Go.FuncId))/\True/\True/\A (Blend.aa4 (0:Nat)=Blend.aa4 (Int.toNat (0:Int)))/\True)/\A (IntKind.i64=IntKind.i64)/\A ((0:Int)=(0:Int))) (by kernel_rfl) ?_;simp [ac9,ae4,aa4]
 ·clear h1 h2;refine ab2 (B:=let A:=Sx.Ask;True/\True/\True/\True/\True/\True/\True/\True/\(True/\A True)/\True/\A ((0:Int)<=(1:Int)/\(1:Int)<(↑(12:Nat):Int))/\True/\True/\True/\True/\True/\True/\(True/\A ((112:Nat)=(112:Go.FuncId))/\True/\True/\A (Blend.aa4 (1:Nat)=Blend.aa4 (Int.toNat (1:Int)))/\True)/\A (IntKind.i64=IntKind.i64)/\A ((0:Int)=(0:Int))) (by kernel_rfl) ?_;simp [ac9,ae4,aa4]
 ·clear h1 h2;refine ab2 (B:=let A:=Sx.Ask;True/\True/\True/\True/\True/\True/\True/\True/\(True/\A True)/\True/\A ((0:Int)<=(2:Int)/\(2:Int)<(↑(12:Nat):Int))/\True/\True/\True/\True/\True/\True/\(True/\A ((112:Nat)=(112:Go.FuncId))/\True/\True/\A (Blend.aa4 (2:Nat)=Blend.aa4 (Int.toNat (2:Int)))/\True)/\A (IntKind.i64=IntKind.i64)/\A ((0:Int)=(0:Int))) (by kernel_rfl) ?_;simp [ac9,ae4,aa4]
 ·clear h1 h2;refine ab2 (B:=let A:=Sx.Ask;True/\True/\True/\True/\True/\True/\True/\True/\(True/\A True)/\True/\A ((0:Int)<=(3:Int)/\(3:Int)<(↑(12:Nat):Int))/\True/\True/\True/\True/\True/\True/\(True/\A ((112:Nat)=(112:Go.FuncId))/\True/\True/\A (Blend.aa4 (3:Nat)=Blend.aa4 (Int.toNat (3:Int)))/\True)/\A (IntKind.i64=IntKind.i64)/\A ((0:Int)=(0:Int))) (by kernel_rfl) ?_;simp [ac9,ae4,aa4]
 ·clear h1 h2;refine ab2 (B:=let A:=Sx.Ask;True/\True/\True/\True/\True/\True/\True/\True/\(True/\A True)/\True/\A ((0:Int)<=(4:Int)/\(4:Int)<(↑(12:Nat):Int))/\True/\True/\True/\True/\True/\True/\(True/\A ((112:Nat)=(112:Go.FuncId))/\True/\True/\A (Blend.aa4 (4:Nat)=Blend.aa4 (Int.toNat (4:Int)))/\True)/\A (IntKind.i64=IntKind.i64)/\A ((0:Int)=(0:Int))) (by kernel_rfl) ?_;simp [ac9,ae4,aa4]
 ·clear h1 h2;refine ab2 (B:=let A:=Sx.Ask;True/\True/\True/\True/\True/\True/\True/\True/\(True/\A True)/\True/\A ((0:Int)<=(5:Int)/\(5:Int)<(↑(12:Nat):Int))/\True/\True/\True/\True/\True/\True/\(True/\A ((112:Nat)=(112:Go.FuncId))/\True/\True/\A (Blend.aa4 (5:Nat)=Blend.aa4 (Int.toNat (5:Int)))/\True)/\A (IntKind.i64=IntKind.i64)/\A ((0:Int)=(0:Int))) (by kernel_rfl) ?_;simp [ac9,ae4,aa4]
 ·clear h1 h2;refine ab2 (B:=let A:=Sx.Ask;True/\True/\True/\True/\True/\True/\True/\True/\(True/\A True)/\True/\A ((0:Int)<=(6:Int)/\(6:Int)<(↑(12:Nat):Int))/\True/\True/\True/\True/\True/\True/\(True/\A ((112:Nat)=(112:Go.FuncId))/\True/\True/\A (Blend.aa4 (6:Nat)=Blend.aa4 (Int.toNat (6:Int)))/\True)/\A (IntKind.i64=IntKind.i64)/\A ((0:Int)=(0:Int))) (by kernel_rfl) ?_;simp [ac9,ae4,aa4]
 ·clear h1 h2;refine ab2 (B:=let A:=Sx.Ask;True/\True/\True/\True/\True/\True/\True/\True/\(True/\A True)/\True/\A ((0:Int)<=(7:Int)/\(7:Int)<(↑(12:Nat):Int))/\True/\True/\True/\True/\True/\True/\(True/\A ((112:Nat)=(112:Go.FuncId))/\True/\True/\A (Blend.aa4 (7:Nat)=Blend.aa4 (Int.toNat (7:Int)))/\True)/\A (IntKind.i64=IntKind.i64)/\A ((0:Int)=(0:Int))) (by kernel_rfl) ?_;simp [ac9,ae4,aa4]
 ·clear h1 h2;refine ab2 (B:=let A:=Sx.Ask;True/\True/\True/\True/\True/\True/\True/\True/\(True/\A True)/\True/\A ((0:Int)<=(8:Int)/\(8:Int)<(↑(12:Nat):Int))/\True/\True/\True/\True/\True/\True/\(True/\A ((112:Nat)=(112:Go.FuncId))/\True/\True/\A (Blend.aa4 (8:Nat)=Blend.aa4 (Int.toNat (8:Int)))/\True)/\A (IntKind.i64=IntKind.i64)/\A ((0:Int)=(0:Int))) (by kernel_rfl) ?_;simp [ac9,ae4,aa4]
 ·clear h1 h2;refine ab2 (B:=let A:=Sx.Ask;True/\True/\True/\True/\True/\True/\True/\True/\(True/\A True)/\True/\A ((0:Int)<=(9:Int)/\(9:Int)<(↑(12:Nat):Int))/\True/\True/\True/\True/\True/\True/\(True/\A ((112:Nat)=(112:Go.FuncId))/\True/\True/\A (Blend.aa4 (9:Nat)=Blend.aa4 (Int.toNat (9:Int)))/\True)/\A (IntKind.i64=IntKind.i64)/\A ((0:Int)=(0:Int))) (by kernel_rfl) ?_;simp [ac9,ae4,aa4]
 ·clear h1 h2;refine ab2 (B:=let A:=Sx.Ask;True/\True/\True/\True/\True/\True/\True/\True/\(True/\A True)/\True/\A ((0:Int)<=(10:Int)/\(10:Int)<(↑(12:Nat):Int))/\True/\True/\True/\True/\True/\True/\(True/\A ((112:Nat)=(112:Go.FuncId))/\True/\True/\A (Blend.aa4 (10:Nat)=Blend.aa4 (Int.toNat (10:Int)))/\True)/\A (IntKind.i64=IntKind.i64)/\A ((0:Int)=(0:Int))) (by kernel_rfl) ?_;simp [ac9,ae4,aa4]
 ·clear h1 h2;refine ab2 (B:=let A:=Sx.Ask;True/\True/\True/\True/\True/\True/\True/\True/\(True/\A True)/\True/\A ((0:Int)<=(11:Int)/\(11:Int)<(↑(12:Nat):Int))/\True/\True/\True/\True/\True/\True/\(True/\A ((112:Nat)=(112:Go.FuncId))/\True/\True/\A (Blend.aa4 (11:Nat)=Blend.aa4 (Int.toNat (11:Int)))/\True)/\A (IntKind.i64=IntKind.i64)/\A ((0:Int)=(0:Int))) (by kernel_rfl) ?_;simp [ac9,ae4,aa4]
def bL2:FSpec:=aa3 60 (γ:=Int) (fun | [.int _ k]=>some k | _=>none) (fun k=>[.int .i64 k]) (fun k=>0<=k/\k<=11) (fun k=>bh3 (aa4 k.toNat))
theorem bS8:aa2 Tryz.prog bL2:=by
 refine ssW (specs:=[bL0]) (⟨bS6,trivial⟩) Tryz.func60 (fun _=>A0) ?_;rintro k ⟨h1,h2⟩;refine ab2 (B:=let A:=Sx.Ask;True/\True/\(((A (IntKind.i64=IntKind.i64)/\A (k=k))/\True)/\A ((0:Int)<=k/\k<=(11:Int)))/\True/\True/\True/\True/\True/\True/\True/\True/\True/\True/\True/\A ((86:Nat)=(86:Go.FuncId))/\True/\True/\A ((112:Go.FuncId)=(112:Go.FuncId))/\True/\True/\A (Blend.aa4 k.toNat=Blend.aa4 k.toNat)/\True) (by kernel_rfl) ?_;simp [ac9,ae4,h1,h2]
def kOf (F:Nat):Nat:=((List.range 12).find? fun k=>aa4 k==F).getD 0
theorem aJ9:∀ k,k<12->kOf (aa4 k)=k:=by decide
def fnD:SV->Nat
 | .fn F _ _=>F
 | _=>0
def caps:SV->Nat->SV
 | .fn _ _ g=>g
 | .ref _ g=>g
 | _=>fun _=> .any
def aP9 (F:Nat):Prop:=∃ k,k<12/\F=aa4 k
def ak8 (F:Nat) (b s:Int):Int:=af5 (kOf F) b s
theorem aD4 {F:Nat}(h:aP9 F) {b s:Int}(h1:0<=b) (h2:b<=255) (h3:0<=s) (h4:s<=255):0<=ak8 F b s/\ak8 F b s<=255:=by
 obtain ⟨k,hk,rfl⟩:=h;unfold ak8;rw [aJ9 k hk];exact aJ5 hk h1 h2 h3 h4
def bs8:FSpec:=aa3 112 (γ:=Int×Int×Nat) (fun | [.int _ b,.int _ s,c]=>some (b,s,fnD (caps c 0)) | _=>none) (fun g=>[.int .u8 g.1,.int .u8 g.2.1,.ref 1 (lst [fnS g.2.2])])
 (fun g=>((0<=g.1/\g.1<=255)/\0<=g.2.1/\g.2.1<=255)/\aP9 g.2.2) (fun g=> .int .u8 (ak8 g.2.2 g.1 g.2.1))
theorem bG3:aa2 Tryz.prog bs8:=by
 refine aX9 (fun _ _=>by kernel_rfl) ?_;rintro ⟨b,s,F⟩ ⟨⟨⟨h1,h2⟩,h3,h4⟩,k,hk,hF⟩ vals w X hsz hr hX;simp only at h1 h2 h3 h4 hF
 subst hF;have r0:=hr 0 (by simp);have r1:=hr 1 (by simp);have r2:=hr 2 (by simp);simp only [xr,List.getD_cons_succ] at r0 r1 r2;generalize e0:vals.getD 0 undef=v0 at r0;generalize e1:vals.getD 1 undef=v1 at r1;generalize e2:vals.getD 2 undef=v2 at r2;cases r0;cases r1;cases r2;rename_i bb o c T fr hb hnX hc ho hrr;have hvals:vals = #[.int .u8 b,.int .u8 s,.pointer (some ⟨bb,o,none⟩)]:=by
  obtain ⟨l⟩:=vals;match l,hsz with
  | [x,y,z],_=>simp at e0 e1 e2; rw [e0,e1,e2]
 have am6:w.cell? ⟨bb,o,none⟩=some (.func (.func (aa4 k)) #[] #[]):=by
  rw [at9 hb (by omega)];have:=hrr 0 (by omega)
  simp only [lX] at this;generalize c.getD o undef=x at this;cases this;rename_i vs hs _;simp [Array.size_eq_zero_iff.1 hs]
 rw [hvals];refine (bc5 k b s ⟨bb,o,none⟩ w hk h1 h2 h3 h4 am6).mono ?_;rintro e w' ⟨rfl,rfl⟩;exact ⟨_,rfl,by simp only [ak8,aJ9 k hk]; exact .int,Below.refl _ _⟩
def bs9:FSpec:=aa3 86 (γ:=Int×Int×Nat) (fun | [.int _ b,.int _ s,c]=>some (b,s,fnD (caps (caps (caps c 0) 0) 0)) | _=>none) (fun g=>[.int .u8 g.1,.int .u8 g.2.1,.ref 1 (lst [bg8 g.2.2])])
 (fun g=>((0<=g.1/\g.1<=255)/\0<=g.2.1/\g.2.1<=255)/\aP9 g.2.2) (fun g=> .int .u8 (255-ak8 g.2.2 (255-g.1) (255-g.2.1)))
theorem bG4:aa2 Tryz.prog bs9:=by
 refine ssW (specs:=[bs8]) (⟨bG3,trivial⟩) Tryz.func86 (fun _=>A0) ?_;rintro ⟨b,s,F⟩ ⟨⟨⟨h1,h2⟩,h3,h4⟩,hF⟩;simp only at h1 h2 h3 h4 hF
 have r:=aD4 hF (b:=255-b) (s:=255-s) (by omega) (by omega) (by omega) (by omega);refine ab2 (B:=let A:=Sx.Ask;let z1:=(IntKind.u8=IntKind.u8);let z0:=(255:Int);True/\True/\True/\A True/\True/\A True/\(((A z1/\A (IntKind.u8.wrap (z0-b)=IntKind.u8.wrap (z0-b)))/\(A z1/\A (IntKind.u8.wrap (z0-s)=IntKind.u8.wrap (z0-s)))/\(True/\A (F=F)/\True)/\True)/\A ((((0:Int)<=IntKind.u8.wrap (z0-b)/\IntKind.u8.wrap (z0-b)<=z0)/\(0:Int)<=IntKind.u8.wrap (z0-s)/\IntKind.u8.wrap (z0-s)<=z0)/\aP9 F))/\A True/\True/\True/\A z1/\A (IntKind.u8.wrap (z0-ak8 F (IntKind.u8.wrap (z0-b)) (IntKind.u8.wrap (z0-s)))=z0-ak8 F (z0-b) (z0-s))) (by kernel_rfl) ?_;simp only [u8w (x:=255-b) (by omega) (by omega),u8w (x:=255-s) (by omega) (by omega),u8w (x:=255-ak8 F (255-b) (255-s)) (by omega) (by omega)];simp [ac9,ae4,hF];omega
end Ble
set_option linter.unusedSimpArgs false
set_option linter.unusedVariables false
namespace Con
open Go.RowKit Sx Num Aff
set_option maxRecDepth 100000
def aI (x:Int):Int:=if x<0 then -x else x
structure Pt where
 x:Int
 y:Int
def ptL (p:Pt):List SV:=[.int .i64 p.x,.int .i64 p.y]
def ptS (p:Pt):SV:= .agg 2 (lst (ptL p))
structure NrG where
 a:Pt
 m:Pt
 b:Pt
def Pt.in (p:Pt) (n:Int):Prop:=(-n<=p.x/\p.x<=n)/\ -n<=p.y/\p.y<=n
def bU3 (g:NrG):Prop:=((min g.a.x g.b.x-1<=g.m.x/\g.m.x<=max g.a.x g.b.x+1)/\min g.a.y g.b.y-1<=g.m.y/\g.m.y<=max g.a.y g.b.y+1)/\
 aI ((g.b.x-g.a.x)*(g.m.y-g.a.y)-(g.b.y-g.a.y)*(g.m.x-g.a.x))<=max (max (aI (g.b.x-g.a.x)) (aI (g.b.y-g.a.y))) 1
instance (g:NrG):Decidable (bU3 g):=by unfold bU3; infer_instance
structure Cur where
 x0:Int
 y0:Int
 x1:Int
 y1:Int
 x2:Int
 y2:Int
 w:Int
def inC (x:Int):Prop:= -32767<=x/\x<=32767
def Cur.ok (c:Cur):Prop:=((inC c.x0/\inC c.y0)/\inC c.x1/\inC c.y1)/\(inC c.x2/\inC c.y2)/\16<=c.w/\c.w<=4096
def sumC (w k n:Int):Int:=256*(n-k)*(n-k)+2*k*(n-k)*w+256*k*k
def atC (x0 x1 x2 w k n:Int):Int:=nr (256*(n-k)*(n-k)*x0+2*k*(n-k)*w*x1+256*k*k*x2) (sumC w k n)
def Cur.at (c:Cur) (k n:Int):Pt:=⟨atC c.x0 c.x1 c.x2 c.w k n,atC c.y0 c.y1 c.y2 c.w k n⟩
structure AtG where
 c:Cur
 k:Int
 n:Int
def AtG.ok (g:AtG):Prop:=g.c.ok/\(0<=g.k/\g.k<=g.n)/\1<=g.n/\g.n<=1024
def midP (c:Cur) (n k:Int):Prop:=bU3 ⟨c.at k n,c.at (2*k+1) (2*n),c.at (k+1) n⟩
instance (c:Cur) (n k:Int):Decidable (midP c n k):=by unfold midP; infer_instance
structure FlG where
 c:Cur
 n:Int
end Con
set_option linter.unusedSimpArgs false
set_option linter.unusedVariables false
namespace Rga
open Go.RowKit Sx Num Aff Con
set_option maxRecDepth 100000
structure Rn where
 y:Int
 x0:Int
 x1:Int
def rnL (r:Rn):List SV:=[.int .i64 r.y,.int .i64 r.x0,.int .i64 r.x1]
def rnS (r:Rn):SV:= .agg 3 (lst (rnL r))
def rnD (g:Nat->SV):Rn:=⟨Sx.intOf (g 0),Sx.intOf (g 1),Sx.intOf (g 2)⟩
def rI (L:List Rn) (i:Nat):Rn:=L.getD i ⟨0,0,0⟩
structure Rg where
 n:Nat
 f:Nat->Rn
def Rg.L (g:Rg):List Rn:=(List.range g.n).map g.f
def rgS (g:Rg):SV:= .sl g.n 3 (fun i=>lst (rnL (g.f i)))
def runsS (L:List Rn):SV:= .sl L.length 3 (fun i=>lst (rnL (rI L i)))
def rgD:SV->Nat->Rn
 | .sl _ _ f=>fun i=>rnD (f i)
 | _=>fun _=>⟨0,0,0⟩
theorem Rg.L_of (L:List Rn):Rg.L ⟨L.length,rI L⟩=L:=by
 unfold Rg.L;apply lab
 ·simp
 ·intro i h1 h2;simp [rI,la,ln h2]
theorem Rg.len (g:Rg):g.L.length=g.n:=by simp [Rg.L]
theorem Rg.rI {g:Rg}{i:Nat}(h:i<g.n):rI g.L i=g.f i:=by
 simp [Rga.rI,Rg.L,la,h]
def okR (r:Rn):Prop:=((-8192<=r.y/\r.y<8192)/\(-8192<=r.x0/\r.x0<=8192)/\ -8192<=r.x1/\r.x1<=8192)/\r.x0<r.x1
def ltR (r s:Rn):Prop:=r.y<s.y\/(r.y=s.y/\r.x1<s.x0)
def vld (L:List Rn):Prop:=(∀ r∈L,okR r)/\L.Pairwise ltR
def av1:FSpec:=aa3 37 (γ:=Int) (fun | [.int _ x]=>some x | _=>none) (fun x=>[.int .i64 x]) (fun _=>True) (fun x=> .bool (decide (-8192<=x)&&decide (x<8192)))
theorem aD3:aa2 Tryz.prog av1:=by
 refine ssW (specs:=[]) trivial Tryz.func37 (fun g=>A0) ?_;rintro x hx;refine ab2 (B:=let z0:=(decide ((-8192:Int)<=x)&&decide (x<(8192:Int)));True/\True/\True/\True/\Br (decide ((-8192:Int)<=x)) (True/\True/\True/\True/\True/\Sx.Ask (decide (x<(8192:Int))=z0)) (True/\True/\True/\Sx.Ask (false=z0))) (by kernel_rfl) ?_;simp only [cln];refine ⟨fun h=>?_,fun h=>?_⟩
 ·rw [lk h]; rfl
 ·rw [li h]; rfl
def aF3:FSpec:=aa3 42 (γ:=Int) (fun | [.int _ x]=>some x | _=>none) (fun x=>[.int .i64 x]) (fun _=>True) (fun x=> .bool (decide (-8192<=x)&&decide (x<=8192)))
theorem aI8:aa2 Tryz.prog aF3:=by
 refine ssW (specs:=[]) trivial Tryz.func42 (fun g=>A0) ?_;rintro x hx;refine ab2 (B:=let z0:=(decide ((-8192:Int)<=x)&&decide (x<=(8192:Int)));True/\True/\True/\True/\Br (decide ((-8192:Int)<=x)) (True/\True/\True/\True/\True/\Sx.Ask (decide (x<=(8192:Int))=z0)) (True/\True/\True/\Sx.Ask (false=z0))) (by kernel_rfl) ?_;simp only [cln];refine ⟨fun h=>?_,fun h=>?_⟩
 ·rw [lk h]; rfl
 ·rw [li h]; rfl
def bB1 (g:Rg):Inv:=⟨Int,fun i=>0<=i/\i<=g.n,fun i=>⟨[(0,rgS g),(5,rgS g),(6,.int .i64 g.n),(7,.int .i64 i)],[]⟩,fun i=>(g.n-i).toNat⟩
def be9:FSpec:=aa3 24 (γ:=Rg) (fun | [s]=>some ⟨ai9 s,rgD s⟩ | _=>none) (fun g=>[rgS g]) (fun g=>vld g.L/\g.n<=4294967296) (fun _=> .int .i64 0)
theorem bw2:aa2 Tryz.prog be9:=by
 refine ssW (specs:=[av1,aF3]) (⟨aD3,aI8,trivial⟩) Tryz.func24 (fun g=>(⟨[(2,.inv (bB1 g))],[]⟩:Ann)) ?_;rintro g hg;refine ab2 (B:=let T4:=fun p:Prop=>True/\True/\True/\True/\p;let T5:=fun p:Prop=>True/\True/\True/\True/\True/\p;let K:=Br;let A:=Sx.Ask;let z11:=(↑g.n:Int);let z9:=(bB1 g);let z8:=(1:Int);let z7:=(0:Int);let z1:=(IntKind.i64=IntKind.i64);let q1:=fun p:Int=>A z1/\A (p=p);let z5:=(q1 z11);let z0:=(A (g.n=g.n)/\∀ i:Nat,i<g.n->((True/\q1 ((g.f i).y))/\q1 ((g.f i).x0))/\q1 ((g.f i).x1));T4 ((∃ g_1:Int,A (z9.pre g_1)/\(z0/\z0/\z5/\(A z1/\A (z7=g_1))/\True)/\True)/\∀ g_1:Int,let z10:=(g.f (g_1-z8).toNat);let z6:=(z7<=g_1-z8/\g_1-z8<z11);let z4:=(g.f g_1.toNat);let z3:=((-9223372036854775808:Int)<=g_1+z8/\g_1+z8<=(9223372036854775807:Int));let z2:=((-9223372036854775808:Int)<=g_1-z8/\g_1-z8<=(9223372036854775807:Int)); z9.pre g_1->True/\K (decide (g_1<z11)) (True/\A (z7<=g_1/\g_1<z11)/\T5 (True/\(((q1 z4.y)/\True)/\A True)/\True/\True/\K (!(decide ((-8192:Int)<=z4.y)&&decide (z4.y<(8192:Int)))) (T5 (A z1/\A ((3:Int)=z7))) (True/\True/\(((q1 z4.x0)/\True)/\A True)/\True/\True/\True/\K (!(decide ((-8192:Int)<=z4.x0)&&decide (z4.x0<=(8192:Int)))) (True/\True/\True/\A z1/\A ((3:Int)=z7)) (True/\True/\(((q1 z4.x1)/\True)/\A True)/\True/\True/\K (!(decide ((-8192:Int)<=z4.x1)&&decide (z4.x1<=(8192:Int)))) (True/\True/\A z1/\A ((3:Int)=z7)) (T5 (K (decide (z4.x1<=z4.x0)) (True/\True/\A z1/\A ((4:Int)=z7)) (True/\True/\True/\K (decide (z7<g_1)) (T4 (A z2/\A z6/\T5 (K (decide (z4.y<=z10.y)) (T4 (A z2/\A z6/\T4 (K (decide (z4.y<z10.y)) (T4 (A z1/\A ((18:Int)=z7))) (T4 (A z2/\A z6/\T5 (K (decide (z4.x0<=z10.x1)) (True/\True/\A z1/\A ((18:Int)=z7)) (A z3/\True/\∃ (g':Int),A (z9.pre g')/\((z0/\z0/\z5/\(A z1/\A (g_1+z8=g'))/\True)/\True)/\A (z9.meas g'<z9.meas g_1)))))))) (True/\A z3/\True/\∃ (g':Int),A (z9.pre g')/\((z0/\z0/\z5/\(A z1/\A (g_1+z8=g'))/\True)/\True)/\A (z9.meas g'<z9.meas g_1))))) (True/\True/\True/\A z3/\True/\∃ (g':Int),A (z9.pre g')/\((z0/\z0/\z5/\(A z1/\A (g_1+z8=g'))/\True)/\True)/\A (z9.meas g'<z9.meas g_1))))))))) (True/\True/\q1 z7))) (by kernel_rfl) ?_;simp only [cln];obtain ⟨⟨h1,h2⟩,h3⟩:=hg;have ok:∀ i,i<g.n->okR (g.f i):=fun i hi=>h1 _ (xx.2 ⟨i,lS.2 hi,rfl⟩)
 have lt:∀ i,i+1<g.n->ltR (g.f i) (g.f (i+1)):=fun i hi=>by
  have:=xR.1 h2 i (i+1) (by rw [Rg.len]; omega) (by rw [Rg.len]; exact hi) (by omega)
  simpa [Rg.L] using this
 refine ⟨⟨0,⟨xN _,Int.natCast_nonneg _⟩,rfl⟩,fun i hi hlt=>?_⟩;have hi:0<=i/\i<=g.n:=hi;obtain ⟨k,rfl⟩:∃ k:Nat,i=k:=⟨i.toNat,by omega⟩
 have e1:((k:Int)).toNat=k:=rfl;have e2:((k:Int)-1).toNat=k-1:=by omega
 have hk:=ok k (by omega);obtain ⟨⟨⟨a1,a2⟩,⟨b1,b2⟩,c1,c2⟩,d1⟩:=hk;rw [e1,e2,lk a1,lk a2,lk b1,lk b2,lk c1,lk c2];have fin:(-9223372036854775808<=(k:Int)+1/\(k:Int)+1<=9223372036854775807)/\∃ g':Int,(bB1 g).pre g'/\(k:Int)+1=g'/\(bB1 g).meas g'<(bB1 g).meas (k:Int):=by
  refine ⟨by omega,(k:Int)+1,⟨by omega,by omega⟩,rfl,?_⟩;show ((g.n:Int)-(k+1)).toNat<((g.n:Int)-k).toNat;omega
 refine ⟨by omega,fun h=>absurd h (by decide),fun _=>⟨fun h=>absurd h (by decide),fun _=>⟨fun h=>absurd h (by decide),fun _=>⟨fun h=>absurd h (by omega),fun _=>⟨fun h0=>?_,fun _=>fin⟩⟩⟩⟩⟩;have hl:=lt (k-1) (by omega);rw [show k-1+1=k by omega] at hl;have q1 : -9223372036854775808<=(k:Int)-1/\(k:Int)-1<=9223372036854775807:=by clear fin; omega
 have q2:0<=(k:Int)-1/\(k:Int)-1<(g.n:Int):=by clear fin; omega
 have hl:(g.f (k-1)).y<(g.f k).y\/((g.f (k-1)).y=(g.f k).y/\(g.f (k-1)).x1<(g.f k).x0):=hl;exact ⟨q1,q2,fun hy=>⟨q1,q2,fun hy2=>absurd hl (by clear fin; omega),fun hy2=>⟨q1,q2,fun hx=>absurd hl (by clear fin; omega),fun _=>fin⟩⟩,fun _=>fin⟩
def addR (L:List Rn) (r:Rn):List Rn:=if r.x0<r.x1 then (match L.getLast? with
 | some s=>if s.y=r.y/\r.x0<=s.x1 then L.dropLast++[⟨s.y,s.x0,if r.x1>s.x1 then r.x1 else s.x1⟩] else L++[r]
 | none=>[r]) else L
theorem bM9 (L:List Rn) (r:Rn) (i:Nat) (h:i<L.length+1):rI (L++[r]) i=if i<L.length then rI L i else r:=by
 unfold rI;by_cases hi:i<L.length
 ·rw [lg hi,la,xf hi,la]
 ·rw [lb hi,show i=L.length by omega];simp
theorem bu5 (L:List Rn) (s:Rn) (i:Nat) (h:i<L.length) (h0:0<L.length):rI (L.dropLast++[s]) i=if i=L.length-1 then s else rI L i:=by
 unfold rI;by_cases hi:i=L.length-1
 ·rw [lg hi,hi];simp
 ·rw [lb hi,la,xf (by rw [xz]; omega),la,List.getElem?_dropLast,lg (by omega)]
structure AdG where
 n:Nat
 f:Nat->Rn
 r:Rn
def AdG.L (g:AdG):List Rn:=addR (Rg.L ⟨g.n,g.f⟩) g.r
def adD:List SV->List SO->Option AdG
 | [_,.int _ y,.int _ x0,.int _ x1],[_,.row _ n _ g _]=>some ⟨n,fun i=>rnD (g i),⟨y,x0,x1⟩⟩
 | _,_=>none
def bM1:FSpec:=ac3 58 [.arg 0,.cell 0 0] adD (fun g=>[.own 0 0,.int .i64 g.r.y,.int .i64 g.r.x0,.int .i64 g.r.x1])
 (fun g=>[.cells 1 (lst [.osl 1 0]) 111,.row 0 g.n 3 (fun i=>lst (rnL (g.f i))) 70]) (fun g=>g.n<=4294967296)
 (fun _=> .tup 0 (lst []))
 (fun g=>[.cells 1 (lst [.osl 1 1]) 111,.row 1 g.L.length 3 (fun i=>lst (rnL (rI g.L i))) 70])
theorem bT8:aa2 Tryz.prog bM1:=by
 refine smW (specs:=[]) trivial Tryz.func58 (fun g=>A0) false ?_;rintro g hg;refine ab2 (B:=let T5:=fun p:Prop=>True/\True/\True/\True/\True/\p;let T10:=fun p:Prop=>True/\True/\True/\True/\True/\True/\True/\True/\True/\True/\p;let K:=Br;let A:=Sx.Ask;let z11:=(2:Nat);let z10:=(0:Nat);let z9:=(1:Nat);let z7:=(↑g.n:Int);let z5:=(True/\True);let z4:=(IntKind.i64=IntKind.i64);let z3:=(g.n+z9<=(9223372036854775807:Nat)/\(g.n+z9)*(24:Nat)<=(140737488355328:Nat));let z2:=((0:Int)<=z7-(1:Int)/\z7-(1:Int)<z7);let z1:=(z7-(1:Int));let z8:=(z1.toNat<g.n);let z6:=(g.f z1.toNat);let z0:=(A (g.n+z9=g.L.length)/\∀ i:Nat,i<g.L.length->((True/\A z4/\A ((bif decide (i<g.n) then (g.f i).y else g.r.y)=(rI g.L i).y))/\A z4/\A ((bif decide (i<g.n) then (g.f i).x0 else g.r.x0)=(rI g.L i).x0))/\A z4/\A ((bif decide (i<g.n) then (g.f i).x1 else g.r.x1)=(rI g.L i).x1));True/\True/\True/\K (decide (g.r.x1<=g.r.x0)) (True/\True/\z5/\z5/\(A (g.n=g.L.length)/\∀ i:Nat,i<g.L.length->((True/\A z4/\A ((g.f i).y=(rI g.L i).y))/\A z4/\A ((g.f i).x0=(rI g.L i).x0))/\A z4/\A ((g.f i).x1=(rI g.L i).x1))/\True) (T5 (A ((-9223372036854775808:Int)<=z7-(1:Int)/\z7-(1:Int)<=(9223372036854775807:Int))/\True/\True/\True/\True/\K (decide ((0:Int)<=z7-(1:Int))) (T5 (A z2/\True/\A z8/\True/\True/\True/\True/\K (decide (z6.y=g.r.y)) (T5 (True/\A z2/\True/\A z8/\True/\True/\K (decide (g.r.x0<=z6.x1)) (T10 (A z2/\True/\A z8/\True/\True/\A z2/\True/\A z8/\True/\True/\z5/\z5/\(A (g.n=g.L.length)/\∀ i:Nat,i<g.L.length->((True/\A z4/\A ((bif decide (i=z1.toNat/\z10+z11<=z10/\z10<z10+z11+z9) then if g.r.x1>z6.x1 then g.r.x1 else z6.x1 else (g.f i).y)=(rI g.L i).y))/\A z4/\A ((bif decide (i=z1.toNat/\z10+z11<=z9/\z9<z10+z11+z9) then if g.r.x1>z6.x1 then g.r.x1 else z6.x1 else (g.f i).x0)=(rI g.L i).x0))/\A z4/\A ((bif decide (i=z1.toNat/\z10+z11<=z11/\z11<z10+z11+z9) then if g.r.x1>z6.x1 then g.r.x1 else z6.x1 else (g.f i).x1)=(rI g.L i).x1))/\True)) (T10 (A z3/\T5 (z5/\z5/\z0/\True))))) (T10 (True/\A z3/\T5 (z5/\z5/\z0/\True))))) (T10 (True/\True/\True/\A z3/\T5 (z5/\z5/\z0/\True)))))) (by kernel_rfl) ?_;simp only [cln];have hlen:(Rg.L ⟨g.n,g.f⟩).length=g.n:=Rg.len _;have hget:∀ i,i<g.n->rI (Rg.L ⟨g.n,g.f⟩) i=g.f i:=fun i hi=>Rg.rI (g:=⟨g.n,g.f⟩) hi
 have hL:g.L=addR (Rg.L ⟨g.n,g.f⟩) g.r:=rfl;generalize Rg.L ⟨g.n,g.f⟩=L at hlen hget hL;rw [hL];have app:∀ (i:Nat),i<(L++[g.r]).length->((bif decide (i<g.n) then (g.f i).y else g.r.y)=(rI (L++[g.r]) i).y/\(bif decide (i<g.n) then (g.f i).x0 else g.r.x0)=(rI (L++[g.r]) i).x0)/\(bif decide (i<g.n) then (g.f i).x1 else g.r.x1)=(rI (L++[g.r]) i).x1:=fun i hi=>by
  rw [bM9 L g.r i (by simpa using hi),hlen];by_cases h:i<g.n
  ·rw [lk h,lg h,hget i h]; exact ⟨⟨rfl,rfl⟩,rfl⟩
  ·rw [li h,lb h]; exact ⟨⟨rfl,rfl⟩,rfl⟩
 have bnd:g.n+1<=9223372036854775807/\(g.n+1)*24<=140737488355328:=by omega
 have e1:((g.n:Int)-1).toNat=g.n-1:=by omega
 rw [e1];refine ⟨fun h=>?_,fun h=>⟨by omega,fun h0=>?_,fun h0=>?_⟩⟩
 ·have e:addR L g.r=L:=lb (by omega);rw [e];exact ⟨hlen.symm,fun i hi=>by rw [hget i (by omega)]; exact ⟨⟨rfl,rfl⟩,rfl⟩⟩
 ·have hn:0<g.n:=by omega
  have hlast:L.getLast?=some (g.f (g.n-1)):=by
   rw [<-hget (g.n-1) (by omega),List.getLast?_eq_getElem?,hlen];unfold rI;rw [la,ln (show g.n-1<L.length by omega)];rfl
  have ea:addR L g.r=if (g.f (g.n-1)).y=g.r.y/\g.r.x0<=(g.f (g.n-1)).x1 then L.dropLast++[⟨(g.f (g.n-1)).y,(g.f (g.n-1)).x0,if g.r.x1>(g.f (g.n-1)).x1 then g.r.x1 else (g.f (g.n-1)).x1⟩] else L++[g.r]:=by
   unfold addR;rw [lg (by omega),hlast]
  have q1:0<=(g.n:Int)-1/\(g.n:Int)-1<g.n:=by omega
  have q2:g.n-1<g.n:=by omega
  refine ⟨q1,q2,fun hy=>⟨q1,q2,fun hx=>⟨q1,q2,q1,q2,?_⟩,fun hx=>⟨bnd,?_⟩⟩,fun hy=>⟨bnd,?_⟩⟩
  ·rw [ea,lg ⟨hy,hx⟩];refine ⟨by rw [lv,xz,xu]; omega,fun i hi=>?_⟩;rw [bu5 L _ i (by rw [lv,xz,xu] at hi; omega) (by omega),hlen];by_cases h:i=g.n-1
   ·rw [li (by omega),li (by omega),lk ⟨h,by omega⟩,lg h,h];exact ⟨⟨rfl,rfl⟩,rfl⟩
   ·rw [li (by omega),li (by omega),li (by omega),lb h,hget i (by rw [lv,xz,xu] at hi; omega)];exact ⟨⟨rfl,rfl⟩,rfl⟩
  ·rw [ea,lb (fun h=>hx h.2)];exact ⟨by simp [hlen],app⟩
  ·rw [ea,lb (fun h=>hy h.1)];exact ⟨by simp [hlen],app⟩
 ·have hn:g.n=0:=by omega
  have eL:L=[]:=uO.1 (by omega);have ea:addR L g.r=L++[g.r]:=by
   unfold addR;rw [lg (by omega),eL];rfl
  rw [ea];exact ⟨bnd,by simp [hlen],app⟩
def orI (a b:Int):Int:=if a=0 then b else a
structure Eg where
 y:Int
 x:Int
 who:Int
structure EsG where
 g:Rg
 w:Int
def eX (f:Nat->Rn) (k:Nat):Int:=if k % 2=0 then (f (k / 2)).x0 else (f (k / 2)).x1
end Rga
namespace Sx
open Go.RowKit
def TI (N:Nat) (X:Nat->Prop) (τ:Tmps) (a:Act) (W:World):Prop:=a.tmps.size=N/\a.defers=[]/\∀ t,t<N->R W X E0 (ac7 τ t) (a.tmps.getD t undef)
def XB (n:Nat) (X B:Nat->Prop) (W:World) (b:Nat):Prop:=b<W.heap.size/\¬ B b/\(n<=b\/X b)
def SI (N n:Nat) (X:Nat->Prop) (J:Nat->(Nat->Prop)->World->Prop) (τ:Tmps) (i:Nat) (a:Act) (W:World):Prop:=∃ B,J i B W/\TI N (XB n X B W) τ a W
def bY4 (J:Nat->(Nat->Prop)->World->Prop):Prop:=(∀ i B W W',J i B W->Below W.heap.size W W'->J i (fun b=>B b\/(W.heap.size<=b/\b<W'.heap.size)) W')/\∀ i B W,J i B W->∀ b,B b->b<W.heap.size
section
variable {P:Program}{specs:List FSpec}{eqs:List (TypeId×List CK)}{N n:Nat}{X:Nat->Prop}{J:Nat->(Nat->Prop)->World->Prop}
theorem TI.eval {τ:Tmps}{a:Act}{W:World}{X':Nat->Prop}(h:TI N X' τ a W) (x:Operand):R W X' E0 (evO N τ x) (a.eval x):=
 ag4 (n0:=none) (w:=W) (X:=X') (E:=E0) (N:=N) (τ:=τ) (a:=a) ⟨h.1,by rw [h.2.1]; exact aA0.nil _ _ _,h.2.2⟩ x
end
def purT:Tmps->Tmps
 | []=>[]
 | (t,s)::r=>match ac6 6 s with
  | true=>(t,s)::purT r
  | false=>(t,.any)::purT r
theorem aJ7:∀ (τ:Tmps) (t:Nat),ac7 (purT τ) t=if ac6 6 (ac7 τ t)=true then ac7 τ t else .any
 | [],t=>by simp only [purT,ac7]; exact (ite_self _).symm
 | (u,s)::r,t=>by
  simp only [purT];split<;>rename_i hp<;>simp only [ac7]<;>split
  ·first | (rw [lg hp]) | rfl
  ·exact aJ7 r t
  ·first | (rw [lb (by rw [hp]; simp)]) | rfl
  ·exact aJ7 r t
structure YLoop:Type 1 where
 γ:Type
 pre:γ->Prop
 τ:γ->Tmps
 idx:γ->Nat
 meas:γ->Nat
 ann:γ->Ann:=fun _=>A0
 tag:γ->Nat:=fun _=>0
structure YAnn:Type 1 where
 loops:List (Nat×(Nat->YLoop))
 ys:List (Nat×Nat)
section
variable {P:Program}{specs:List FSpec}{eqs:List (TypeId×List CK)}{N n:Nat}{X:Nat->Prop}{J:Nat->(Nat->Prop)->World->Prop}
theorem SI.pur {i:Nat}{B:Nat->Prop}{W:World}(hJ:bY4 J) (hj:J i B W) {s':St}{a':Act}{W':World}(h:StR W ⟨XB n X B W,fun _=>False,E0,false⟩ N s' a' W'):SI N n X J (purT s'.τ) i a' W':=by
 obtain ⟨E',hrep,htr⟩:=h;have hbel:Below W.heap.size W W':=hrep.below.all;refine ⟨_,hJ.1 i B W W' hj hbel,htr.1,htr.2.1.1 rfl,fun t ht=>?_⟩;rw [aJ7];split
 ·rename_i hp;refine (ae1 6 _ _ hp (htr.2.2 t ht)).mono (fun _ _ _=>rfl) (fun b hlt hb=>?_) (Env.le_refl _);obtain ⟨b1,b2,b3⟩:=hb;exact .inl ⟨lC fun hc=>b2 (.inr ⟨by omega,b1⟩),fun hc=>b2 (.inl hc),b3⟩
 ·exact .any
end
end Sx
end Go.Proofs.YthappngbapbkfaaGreat
