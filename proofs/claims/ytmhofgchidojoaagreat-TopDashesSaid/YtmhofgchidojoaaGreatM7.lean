/- Part 7 of the texts that the law's proof leans on. -/
import Derived.Test.YtmhofgchidojoaaGreatM6
import Derived.Shelf.SlSortCmp.InsertionK
import Derived.Shelf.SlSortCmp.NoneTotal
import Derived.Ground.SlsfProg
import Derived.Test.YtmhofgchidojoaaGreatProg
set_option linter.unusedSimpArgs false
set_option linter.unusedVariables false
namespace Go.Proofs.YtmhofgchidojoaaGreat.Sra
open Go.RowKit Sx Num Aff Con Fla Flb Flc
set_option maxRecDepth 100000
theorem half (i j:Nat) (h1:i<=4294967296) (h2:j<=4294967296):IntKind.u64.wrap ((i:Int)+(j:Int)) / 2 ^ Int.toNat 1=(((i+j) / 2:Nat):Int):=by
 have e:IntKind.u64.wrap ((i:Int)+(j:Int))=(i:Int)+(j:Int):=IntWalk.u64_in _ (by constructor<;>omega)
 rw [e]
 show ((i:Int)+(j:Int)) / 2=_
 omega
theorem sw2_flip (f:Nat->Ed) {i j:Nat}(h:i≠j) (k:Nat):sw2 f i j k=if k=j then f i else if k=i then f j else f k:=by
 unfold sw2
 repeat' split
 all_goals first
  | rfl
  | (exfalso; omega)
theorem rot_push (f:Nat->Ed) {a m k:Nat}(hm:m=a+1) (hk:a<=k) (t:Nat):rot f a m (k+1+1) t=if t=k+1 then rot f a m (k+1) k else if t=k then rot f a m (k+1) (k+1) else rot f a m (k+1) t:=by
 unfold rot
 repeat' split
 all_goals first
  | rfl
  | (exfalso; omega)
  | exact congrArg f (by omega)
theorem rot_pull (f:Nat->Ed) {m k:Nat}(h0:0<k) (hk:k<=m) (t:Nat):rot f (k-1) m (m+1) t=if t=k-1 then rot f k m (m+1) k else if t=k then rot f k m (m+1) (k-1) else rot f k m (m+1) t:=by
 unfold rot
 repeat' split
 all_goals first
  | rfl
  | (exfalso; omega)
  | exact congrArg f (by omega)
theorem symF_step (K:Nat) (f:Nat->Ed) {a m b:Nat}(h1:¬ m-a=1) (h2:¬ b-m=1):symF (K+1) f a m b=symH (symF K) (symL (symF K) (symR f a m b (cutB f a m b)) a b (cutB f a m b)) a b (mid a b+m-cutB f a m b):=by
 show (if m-a=1 then _ else if b-m=1 then _ else _)=_
 rw [if_neg h1,if_neg h2]
structure SmG where
 n:Nat
 f:Nat->Ed
 a:Nat
 m:Nat
 b:Nat
def smD:List SV->List SO->Option SmG
 | [_,.int _ a,.int _ m,.int _ b,_],[.row _ n _ g _]=>some ⟨n,fun i=>edD (g i),a.toNat,m.toNat,b.toNat⟩
 | _,_=>none
def smA (g:SmG):List SV:=[.osl 0 0,.int .i64 g.a,.int .i64 g.m,.int .i64 g.b,cmpS]
def smE (g:SmG):List (Nat×SV):=[(0,.osl 0 0),(1,.int .i64 g.a),(2,.int .i64 g.m),(3,.int .i64 g.b),(4,cmpS)]
def spSwr:FSpec:=mkSpecM 104 [.arg 0] smD smA (fun g=>[edRow 0 g.n g.f]) (fun g=>(g.a+g.b<=g.m/\g.m+g.b<=g.n)/\g.n<=4294967296) (fun _=> .tup 0 (lst [])) (fun g=>[edRow 0 g.n (swr g.f g.a g.m g.b)])
def swrInv (g:SmG):Inv:=⟨Nat,fun i=>i<=g.b,fun i=>⟨smE g++[(10,.int .i64 i)],[edRow 0 g.n (swr g.f g.a g.m i)]⟩,fun i=>g.b-i⟩
theorem ok_swr:SpecOK Tryz.prog spSwr:=by
 refine spec_soundM (specs:=[]) (all_ok trivial) (eqs:=[]) (fun _ _ h=>(List.not_mem_nil h).elim) Aff.mixed Tryz.func104 rfl (by kernel_rfl) (fun _ _=>by kernel_rfl) (fun g=>(⟨[(1,.inv (swrInv g))],[]⟩:Ann)) true (fun g=>Nat.le_of_ble_eq_true (by kernel_rfl)) ?_
 rintro g hg
 refine vc_of (B:=let A:=Sx.Ask;let z15:=(A ((55:Go.FuncId)=(55:Go.FuncId))/\True);let z14:=(6:Nat);let z13:=(9223372036854775807:Int);let z12:=(-9223372036854775808:Int);let z6:=(0:Nat);let z5:=(↑g.m:Int);let z4:=(↑g.a:Int);let z0:=(IntKind.i64=IntKind.i64);let z16:=(A z0/\A ((↑g.b:Int)=(↑g.b:Int)));True/\(∃ g_1:Nat,A ((swrInv g).pre g_1)/\True/\(True/\(A z0/\A (z4=z4))/\(A z0/\A (z5=z5))/\z16/\z15/\(A z0/\A ((0:Int)=(↑g_1:Int)))/\True)/\(A (g.n=g.n)/\∀ i:Nat,let z7:=(Flc.swr g.f g.a g.m g_1 i); i<g.n->(((((True/\A z0/\A ((g.f i).x=z7.x))/\A z0/\A ((g.f i).y=z7.y))/\A z0/\A ((g.f i).en=z7.en))/\A z0/\A ((g.f i).dx=z7.dx))/\A z0/\A ((g.f i).dy=z7.dy))/\A z0/\A ((g.f i).s=z7.s))/\True)/\∀ g_1:Nat,let z1:=(↑g_1:Int);let z20:=(z4+z1);let z19:=(z5+z1);let z18:=((0:Int)<=z4+z1/\z4+z1<(↑g.n:Int));let z17:=((0:Int)<=z5+z1/\z5+z1<(↑g.n:Int));let z3:=(Flc.swr g.f g.a g.m g_1 z19.toNat);let z2:=(Flc.swr g.f g.a g.m g_1 z20.toNat); (swrInv g).pre g_1->True/\True/\True/\Sx.Br (decide (z1<(↑g.b:Int))) (True/\True/\True/\A (z12<=z4+z1/\z4+z1<=z13)/\True/\True/\True/\A (z12<=z5+z1/\z5+z1<=z13)/\True/\True/\True/\A (z12<=z5+z1/\z5+z1<=z13)/\A z17/\A (z19.toNat<g.n)/\True/\True/\True/\A (z12<=z4+z1/\z4+z1<=z13)/\A z18/\A (z20.toNat<g.n)/\A z18/\A (z20.toNat<g.n)/\A z17/\A (z19.toNat<g.n)/\True/\A (z12<=z1+(1:Int)/\z1+(1:Int)<=z13)/\True/\∃ (g':Nat),A ((swrInv g).pre g')/\True/\((True/\(A z0/\A (z4=z4))/\(A z0/\A (z5=z5))/\z16/\z15/\(A z0/\A (z1+(1:Int)=(↑g':Int)))/\True)/\(A (g.n=g.n)/\∀ i:Nat,let z11:=(Flc.swr g.f g.a g.m g' i);let z8:=(Flc.swr g.f g.a g.m g_1 i); i<g.n->(((((True/\A z0/\A ((bif decide (i=z19.toNat/\z6<=z6/\z6<z6+z14) then z2.x else bif decide (i=z20.toNat/\z6<=z6/\z6<z6+z14) then z3.x else z8.x)=z11.x))/\A z0/\A ((bif decide (i=z19.toNat/\z6<=(1:Nat)/\(1:Nat)<z6+z14) then z2.y else bif decide (i=z20.toNat/\z6<=(1:Nat)/\(1:Nat)<z6+z14) then z3.y else z8.y)=z11.y))/\A z0/\A ((bif decide (i=z19.toNat/\z6<=(2:Nat)/\(2:Nat)<z6+z14) then z2.en else bif decide (i=z20.toNat/\z6<=(2:Nat)/\(2:Nat)<z6+z14) then z3.en else z8.en)=z11.en))/\A z0/\A ((bif decide (i=z19.toNat/\z6<=(3:Nat)/\(3:Nat)<z6+z14) then z2.dx else bif decide (i=z20.toNat/\z6<=(3:Nat)/\(3:Nat)<z6+z14) then z3.dx else z8.dx)=z11.dx))/\A z0/\A ((bif decide (i=z19.toNat/\z6<=(4:Nat)/\(4:Nat)<z6+z14) then z2.dy else bif decide (i=z20.toNat/\z6<=(4:Nat)/\(4:Nat)<z6+z14) then z3.dy else z8.dy)=z11.dy))/\A z0/\A ((bif decide (i=z19.toNat/\z6<=(5:Nat)/\(5:Nat)<z6+z14) then z2.s else bif decide (i=z20.toNat/\z6<=(5:Nat)/\(5:Nat)<z6+z14) then z3.s else z8.s)=z11.s))/\True)/\A ((swrInv g).meas g'<(swrInv g).meas g_1)) (True/\True/\(True/\True)/\(A (g.n=g.n)/\∀ i:Nat,let z10:=(Flc.swr g.f g.a g.m g.b i);let z9:=(Flc.swr g.f g.a g.m g_1 i); i<g.n->(((((True/\A z0/\A (z9.x=z10.x))/\A z0/\A (z9.y=z10.y))/\A z0/\A (z9.en=z10.en))/\A z0/\A (z9.dx=z10.dx))/\A z0/\A (z9.dy=z10.dy))/\A z0/\A (z9.s=z10.s))/\True)) (by kernel_rfl) ?_
 simp only [ask_iff,br_iff,eq_self,true_and,and_true,implies_true,forall_const,decide_eq_true_eq,decide_eq_false_iff_not,ne_eq,Nat.mul_one,Nat.add_zero,Nat.zero_add,Int.toNat_natCast,and_self,List.append_assoc,false_and,and_false]
 obtain ⟨⟨h1,h2⟩,hn⟩:=hg
 refine ⟨⟨0,Nat.zero_le _,rfl,fun k _=>same_of (by rw [swr_zero])⟩,fun i hi=>⟨fun hlt=>?_,fun hge k _=>same_of ?_⟩⟩
 ·have hi:i<=g.b:=hi
  have e1:((g.m:Int)+(i:Int)).toNat=g.m+i:=by omega
  have e2:((g.a:Int)+(i:Int)).toNat=g.a+i:=by omega
  rw [e1,e2]
  iterate 13 (apply And.intro; · omega)
  refine ⟨i+1,(show i+1<=g.b by omega),⟨by omega,fun k _=>?_⟩,show g.b-(i+1)<g.b-i by omega⟩
  exact upd2 (p:=k=g.m+i) (q:=k=g.a+i) (by
   rw [swr_succ g.f (by omega)]
   exact sw2_flip _ (by omega) k) ⟨by simp,by simp,by simp,by simp,by simp,by simp⟩ ⟨by simp,by simp,by simp,by simp,by simp,by simp⟩
 ·have hi:i<=g.b:=hi
  rw [show i=g.b by omega]
def spRot:FSpec:=mkSpecM 94 [.arg 0] smD smA (fun g=>[edRow 0 g.n g.f]) (fun g=>(g.a<g.m/\g.m<g.b/\g.b<=g.n)/\g.n<=4294967296) (fun _=> .tup 0 (lst [])) (fun g=>[edRow 0 g.n (rot g.f g.a g.m g.b)])
structure RoI where
 h:Nat->Ed
 i:Nat
 j:Nat
def rotInv (g:SmG):Inv:=⟨RoI,fun r=>(0<r.i/\0<r.j)/\(g.a+r.i<=g.m/\g.m+r.j<=g.b)/\rot r.h (g.m-r.i) g.m (g.m+r.j)=rot g.f g.a g.m g.b,fun r=>⟨smE g++[(10,.int .i64 r.i),(11,.int .i64 r.j)],[edRow 0 g.n r.h]⟩,fun r=>r.i+r.j⟩
theorem ok_rot:SpecOK Tryz.prog spRot:=by
 refine spec_soundM (specs:=[spSwr]) (all_ok (⟨ok_swr,trivial⟩)) (eqs:=[]) (fun _ _ h=>(List.not_mem_nil h).elim) Aff.mixed Tryz.func94 rfl (by kernel_rfl) (fun _ _=>by kernel_rfl) (fun g=>(⟨[(2,.inv (rotInv g))],[]⟩:Ann)) true (fun g=>Nat.le_of_ble_eq_true (by kernel_rfl)) ?_
 rintro g hg
 refine vc_of (B:=let A:=Sx.Ask;let z22:=(↑g.a:Int);let z21:=(↑g.b:Int);let z18:=(rotInv g);let z10:=(9223372036854775807:Int);let z9:=(-9223372036854775808:Int);let z6:=(A ((55:Go.FuncId)=(55:Go.FuncId))/\True);let z3:=(↑g.m:Int);let z0:=(IntKind.i64=IntKind.i64);let z19:=(A z0/\A (z3=(↑z3.toNat:Int)));let z16:=(A z0/\A (z3=z3));let z14:=(A z0/\A (z21=z21));let z13:=(A z0/\A (z22=z22));True/\True/\A (z9<=z3-z22/\z3-z22<=z10)/\True/\True/\True/\A (z9<=z21-z3/\z21-z3<=z10)/\True/\(∃ g_1:RoI,A (z18.pre g_1)/\True/\(True/\z13/\z16/\z14/\z6/\(A z0/\A (z3-z22=(↑g_1.i:Int)))/\(A z0/\A (z21-z3=(↑g_1.j:Int)))/\True)/\(A (g.n=g.n)/\∀ i:Nat,i<g.n->(((((True/\A z0/\A ((g.f i).x=(g_1.h i).x))/\A z0/\A ((g.f i).y=(g_1.h i).y))/\A z0/\A ((g.f i).en=(g_1.h i).en))/\A z0/\A ((g.f i).dx=(g_1.h i).dx))/\A z0/\A ((g.f i).dy=(g_1.h i).dy))/\A z0/\A ((g.f i).s=(g_1.h i).s))/\True)/\∀ g_1:RoI,let z8:=(↑g_1.j:Int);let z2:=(A (g.n=g.n)/\∀ i:Nat,let z15:=(g_1.h i); i<g.n->(((((True/\A z0/\A (z15.x=z15.x))/\A z0/\A (z15.y=z15.y))/\A z0/\A (z15.en=z15.en))/\A z0/\A (z15.dx=z15.dx))/\A z0/\A (z15.dy=z15.dy))/\A z0/\A (z15.s=z15.s));let z1:=(↑g_1.i:Int);let z20:=(A z0/\A (z1=(↑z1.toNat:Int)));let z17:=(z9<=z3-z1/\z3-z1<=z10);let z12:=(A z0/\A (z3-z1=(↑(z3-z1).toNat:Int))); z18.pre g_1->True/\True/\True/\Sx.Br (decide (z1≠z8)) (True/\True/\True/\Sx.Br (decide (z8<z1)) (True/\True/\True/\A z17/\True/\True/\True/\((True/\(True/\z12/\z19/\(A z0/\A (z8=(↑z8.toNat:Int)))/\z6/\True)/\z2/\True)/\A (((z3-z1).toNat+z8.toNat<=z3.toNat/\z3.toNat+z8.toNat<=g.n)/\g.n<=(4294967296:Nat)))/\True/\True/\A (z9<=z1-z8/\z1-z8<=z10)/\True/\∃ (g':RoI),A (z18.pre g')/\True/\((True/\z13/\z16/\z14/\z6/\(A z0/\A (z1-z8=(↑g'.i:Int)))/\(A z0/\A (z8=(↑g'.j:Int)))/\True)/\(A (g.n=g.n)/\∀ i:Nat,let z5:=(Flc.swr g_1.h (z3-z1).toNat z3.toNat z8.toNat i); i<g.n->(((((True/\A z0/\A (z5.x=(g'.h i).x))/\A z0/\A (z5.y=(g'.h i).y))/\A z0/\A (z5.en=(g'.h i).en))/\A z0/\A (z5.dx=(g'.h i).dx))/\A z0/\A (z5.dy=(g'.h i).dy))/\A z0/\A (z5.s=(g'.h i).s))/\True)/\A (z18.meas g'<z18.meas g_1)) (True/\True/\True/\A z17/\True/\True/\A (z9<=z3+z8/\z3+z8<=z10)/\True/\A (z9<=z3+z8-z1/\z3+z8-z1<=z10)/\True/\True/\((True/\(True/\z12/\(A z0/\A (z3+z8-z1=(↑(z3+z8-z1).toNat:Int)))/\z20/\z6/\True)/\z2/\True)/\A (((z3-z1).toNat+z1.toNat<=(z3+z8-z1).toNat/\(z3+z8-z1).toNat+z1.toNat<=g.n)/\g.n<=(4294967296:Nat)))/\True/\True/\A (z9<=z8-z1/\z8-z1<=z10)/\True/\∃ (g':RoI),A (z18.pre g')/\True/\((True/\z13/\z16/\z14/\z6/\(A z0/\A (z1=(↑g'.i:Int)))/\(A z0/\A (z8-z1=(↑g'.j:Int)))/\True)/\(A (g.n=g.n)/\∀ i:Nat,let z4:=(Flc.swr g_1.h (z3-z1).toNat (z3+z8-z1).toNat z1.toNat i); i<g.n->(((((True/\A z0/\A (z4.x=(g'.h i).x))/\A z0/\A (z4.y=(g'.h i).y))/\A z0/\A (z4.en=(g'.h i).en))/\A z0/\A (z4.dx=(g'.h i).dx))/\A z0/\A (z4.dy=(g'.h i).dy))/\A z0/\A (z4.s=(g'.h i).s))/\True)/\A (z18.meas g'<z18.meas g_1))) (True/\True/\True/\A z17/\True/\True/\True/\((True/\(True/\z12/\z19/\z20/\z6/\True)/\z2/\True)/\A (((z3-z1).toNat+z1.toNat<=z3.toNat/\z3.toNat+z1.toNat<=g.n)/\g.n<=(4294967296:Nat)))/\True/\True/\(True/\True)/\(A (g.n=g.n)/\∀ i:Nat,let z11:=(Flc.rot g.f g.a g.m g.b i);let z7:=(Flc.swr g_1.h (z3-z1).toNat z3.toNat z1.toNat i); i<g.n->(((((True/\A z0/\A (z7.x=z11.x))/\A z0/\A (z7.y=z11.y))/\A z0/\A (z7.en=z11.en))/\A z0/\A (z7.dx=z11.dx))/\A z0/\A (z7.dy=z11.dy))/\A z0/\A (z7.s=z11.s))/\True)) (by kernel_rfl) ?_
 simp only [ask_iff,br_iff,eq_self,true_and,and_true,implies_true,forall_const,decide_eq_true_eq,decide_eq_false_iff_not,ne_eq,Nat.mul_one,Nat.add_zero,Nat.zero_add,Int.toNat_natCast,and_self,List.append_assoc,false_and,and_false]
 obtain ⟨⟨h1,h2,h3⟩,hn⟩:=hg
 refine ⟨by omega,by omega,⟨⟨g.f,g.m-g.a,g.b-g.m⟩,⟨⟨by show 0<g.m-g.a; omega,by show 0<g.b-g.m; omega⟩,⟨by show g.a+(g.m-g.a)<=g.m; omega,by show g.m+(g.b-g.m)<=g.b; omega⟩,?_⟩,⟨by show _=((g.m-g.a:Nat):Int); omega,by show _=((g.b-g.m:Nat):Int); omega⟩,fun k _=>same_of rfl⟩,fun r hr=>?_⟩
 ·show rot g.f (g.m-(g.m-g.a)) g.m (g.m+(g.b-g.m))=_
  rw [show g.m-(g.m-g.a)=g.a by omega,show g.m+(g.b-g.m)=g.b by omega]
 ·obtain ⟨h,i,j⟩:=r
  have hr:(0<i/\0<j)/\(g.a+i<=g.m/\g.m+j<=g.b)/\rot h (g.m-i) g.m (g.m+j)=rot g.f g.a g.m g.b:=hr
  obtain ⟨⟨i0,j0⟩,⟨i1,j1⟩,hq⟩:=hr
  simp only []
  have e1:((g.m:Int)-(i:Int)).toNat=g.m-i:=by omega
  have e2:((g.m:Int)+(j:Int)-(i:Int)).toNat=g.m+j-i:=by omega
  rw [e1,e2]
  refine ⟨fun hne=>⟨fun hgt=>?_,fun hle=>?_⟩,fun heq=>⟨by omega,⟨by omega,⟨by omega,by omega⟩,hn⟩,fun k _=>same_of ?_⟩⟩
  ·refine ⟨by omega,⟨by omega,⟨by omega,by omega⟩,hn⟩,by omega,⟨swr h (g.m-i) g.m j,i-j,j⟩,⟨⟨by show 0<i-j; omega,j0⟩,⟨by show g.a+(i-j)<=g.m; omega,j1⟩,?_⟩,⟨⟨by show _=((i-j:Nat):Int); omega,rfl⟩,fun k _=>same_of rfl⟩,by show i-j+j<i+j; omega⟩
   rw [<-hq]
   exact rot_big h (by omega) (by omega)
  ·refine ⟨by omega,by omega,by omega,⟨⟨by omega,by omega⟩,⟨by omega,by omega⟩,hn⟩,by omega,⟨swr h (g.m-i) (g.m+j-i) i,i,j-i⟩,⟨⟨i0,by show 0<j-i; omega⟩,⟨i1,by show g.m+(j-i)<=g.b; omega⟩,?_⟩,⟨⟨rfl,by show _=((j-i:Nat):Int); omega⟩,fun k _=>same_of rfl⟩,by show i+(j-i)<i+j; omega⟩
   rw [<-hq]
   exact rot_small h (by omega) (by omega)
  ·obtain rfl:i=j:=by omega
   rw [<-hq,<-rot_same h (by omega)]
def SmG.p1 (g:SmG) (h:Nat):Bool:=less g.f h g.a
def SmG.p2 (g:SmG) (h:Nat):Bool:=!less g.f g.m h
def SmG.p3 (g:SmG) (c:Nat):Bool:=!less g.f (mid g.a g.b+g.m-1-c) c
def SmG.s1 (g:SmG):Nat:=bs g.p1 g.m g.b
def SmG.s2 (g:SmG):Nat:=bs g.p2 g.a g.m
def SmG.s3 (g:SmG):Nat:=cutB g.f g.a g.m g.b
def SmG.e3 (g:SmG):Nat:=mid g.a g.b+g.m-g.s3
def smI1 (g:SmG):Inv:=⟨Nat×Nat,fun r=>(g.m<=r.1/\r.1<=r.2/\r.2<=g.b)/\bs g.p1 r.1 r.2=g.s1,fun r=>⟨smE g++[(10,.int .i64 r.1),(11,.int .i64 r.2)],[edRow 0 g.n g.f]⟩,fun r=>r.2-r.1⟩
def smK1 (g:SmG):Inv:=⟨Nat,fun k=>g.a<=k/\k+1<=g.s1,fun k=>⟨smE g++[(10,.int .i64 g.s1),(13,.int .i64 k)],[edRow 0 g.n (rot g.f g.a g.m (k+1))]⟩,fun k=>g.s1-k⟩
def smI2 (g:SmG):Inv:=⟨Nat×Nat,fun r=>(g.a<=r.1/\r.1<=r.2/\r.2<=g.m)/\bs g.p2 r.1 r.2=g.s2,fun r=>⟨smE g++[(14,.int .i64 r.1),(15,.int .i64 r.2)],[edRow 0 g.n g.f]⟩,fun r=>r.2-r.1⟩
def smK2 (g:SmG):Inv:=⟨Nat,fun k=>g.s2<=k/\k<=g.m,fun k=>⟨smE g++[(14,.int .i64 g.s2),(17,.int .i64 k)],[edRow 0 g.n (rot g.f k g.m (g.m+1))]⟩,fun k=>k⟩
def smC0 (g:SmG):Inv:=⟨Nat×Nat,fun r=>((g.a<=r.1/\r.2<=g.m)/\r.2<=mid g.a g.b/\mid g.a g.b+g.m<=g.b+r.1/\r.1<=r.2)/\bs g.p3 r.1 r.2=g.s3,fun r=>⟨smE g++[(18,.int .i64 (mid g.a g.b)),(19,.int .i64 (mid g.a g.b+g.m)),(20,.int .i64 r.1),(21,.int .i64 r.2)],[edRow 0 g.n g.f]⟩,fun _=>0⟩
def smI3 (g:SmG):Inv:=⟨Nat×Nat,fun r=>((g.a<=r.1/\r.2<=g.m)/\r.2<=mid g.a g.b/\mid g.a g.b+g.m<=g.b+r.1/\r.1<=r.2)/\bs g.p3 r.1 r.2=g.s3,fun r=>⟨smE g++[(18,.int .i64 (mid g.a g.b)),(19,.int .i64 (mid g.a g.b+g.m)),(20,.int .i64 r.1),(21,.int .i64 r.2),(22,.int .i64 (mid g.a g.b+g.m-1))],[edRow 0 g.n g.f]⟩,fun r=>r.2-r.1⟩
def smC1 (g:SmG):Inv:=⟨Unit,fun _=>True,fun _=>⟨smE g++[(18,.int .i64 (mid g.a g.b)),(20,.int .i64 g.s3),(24,.int .i64 g.e3)],[edRow 0 g.n (symR g.f g.a g.m g.b g.s3)]⟩,fun _=>0⟩
def smC2 (K:Nat) (g:SmG):Inv:=⟨Unit,fun _=>True,fun _=>⟨smE g++[(18,.int .i64 (mid g.a g.b)),(20,.int .i64 g.s3),(24,.int .i64 g.e3)],[edRow 0 g.n (symL (symF K) (symR g.f g.a g.m g.b g.s3) g.a g.b g.s3)]⟩,fun _=>0⟩
def spSymK (K:Nat):FSpec:=mkSpecM 87 [.arg 0] smD smA (fun g=>[edRow 0 g.n g.f]) (fun g=>(g.a<g.m/\g.m<g.b/\g.b<=g.n)/\g.n<=4294967296/\g.b-g.a<=K) (fun _=> .tup 0 (lst [])) (fun g=>[edRow 0 g.n (symF K g.f g.a g.m g.b)])
theorem ok_symS (K:Nat) (ih:SpecOK Tryz.prog (spSymK K)):SpecOK Tryz.prog (spSymK (K+1)):=by
 refine spec_soundM (specs:=[spCmpE,spRot,spSymK K]) (all_ok (⟨ok_cmpE,ok_rot,ih,trivial⟩)) (eqs:=[]) (fun _ _ h=>(List.not_mem_nil h).elim) Aff.mixed Tryz.func87 rfl (by kernel_rfl) (fun _ _=>by kernel_rfl) (fun g=>(⟨[(3,.inv (smI1 g)),(9,.inv (smK1 g)),(15,.inv (smI2 g)),(21,.inv (smK2 g)),(32,.cut (smC0 g)),(33,.inv (smI3 g)),(41,.cut (smC1 g)),(43,.cut (smC2 K g))],[]⟩:Ann)) true (fun g=>Nat.le_of_ble_eq_true (by kernel_rfl)) ?_
 rintro g hg
 refine vc_of (B:=let U:=Int.toNat;let J:=Sx.Br;let A:=Sx.Ask;let z96:=(Flc.symF K);let z94:=(5:Nat);let z93:=(4:Nat);let z92:=(3:Nat);let z91:=(2:Nat);let z90:=(True/\True);let z85:=(↑g.s1:Int);let z71:=(↑g.e3:Int);let z70:=(↑g.s3:Int);let z68:=(0:Int);let z66:=(g.n=g.n);let z65:=(↑g.n:Int);let z59:=(6:Nat);let z37:=(2:Int);let z36:=(↑g.b:Int);let z32:=(0:Nat);let z23:=(↑g.a:Int);let z69:=(z23+z36);let z57:=(g.f z23.toNat);let z19:=(1:Nat);let z35:=(g.m+z19);let z17:=(9223372036854775807:Int);let z15:=(-9223372036854775808:Int);let z14:=(1:Int);let z56:=(z68<=z14/\z14<=(↑IntKind.u64.bits:Int));let z9:=(↑g.m:Int);let z58:=(g.f z9.toNat);let z8:=(A ((55:Go.FuncId)=(55:Go.FuncId))/\True);let z4:=(Flc.symR g.f g.a g.m g.b g.s3);let z2:=(↑(Flc.mid g.a g.b):Int);let z0:=(IntKind.i64=IntKind.i64);let z86:=(A z0/\A (z2=(↑z2.toNat:Int)));let z74:=(A z0/\A (IntKind.u64.wrap z69 / z37 ^ U z14=z2));let z73:=(A z0/\A (z2+z9=z2+z9));let z72:=(A z0/\A (IntKind.u64.wrap z69 / z37 ^ U z14+z9=z2+z9));let z67:=(A z0/\A (z2+z9-z14=z2+z9-z14));let z64:=(A z0/\A (z2=z2));let z21:=(A z66/\∀ i:Nat,let z53:=(Flc.symR g.f g.a g.m g.b g.s3 i); i<g.n->(((((True/\A z0/\A ((g.f i).x=z53.x))/\A z0/\A ((g.f i).y=z53.y))/\A z0/\A ((g.f i).en=z53.en))/\A z0/\A ((g.f i).dx=z53.dx))/\A z0/\A ((g.f i).dy=z53.dy))/\A z0/\A ((g.f i).s=z53.s));let z18:=(A z0/\A (z9=z9));let z13:=(A z66/\∀ i:Nat,let z54:=(Flc.symR g.f g.a g.m g.b g.s3 i);let z41:=(Flc.symL z96 z4 g.a g.b g.s3 i); i<g.n->(((((True/\A z0/\A (z54.x=z41.x))/\A z0/\A (z54.y=z41.y))/\A z0/\A (z54.en=z41.en))/\A z0/\A (z54.dx=z41.dx))/\A z0/\A (z54.dy=z41.dy))/\A z0/\A (z54.s=z41.s));let z12:=(A z66/\∀ i:Nat,let z44:=(Flc.symF (K+z19) g.f g.a g.m g.b i);let z42:=(Flc.symL z96 z4 g.a g.b g.s3 i); i<g.n->(((((True/\A z0/\A (z42.x=z44.x))/\A z0/\A (z42.y=z44.y))/\A z0/\A (z42.en=z44.en))/\A z0/\A (z42.dx=z44.dx))/\A z0/\A (z42.dy=z44.dy))/\A z0/\A (z42.s=z44.s));let z11:=(A z0/\A (z36=z36));let z10:=(A z0/\A (z23=z23));let z24:=(True/\z10/\z18/\z11/\z8/\z64/\(A z0/\A (z70=z70))/\(A z0/\A (z71=z71))/\True);let z1:=(A z66/\∀ i:Nat,i<g.n->(((((True/\A z0/\A ((g.f i).x=(g.f i).x))/\A z0/\A ((g.f i).y=(g.f i).y))/\A z0/\A ((g.f i).en=(g.f i).en))/\A z0/\A ((g.f i).dx=(g.f i).dx))/\A z0/\A ((g.f i).dy=(g.f i).dy))/\A z0/\A ((g.f i).s=(g.f i).s));True/\True/\A (z15<=z9-z23/\z9-z23<=z17)/\True/\J (decide (z9-z23=z14)) (True/\True/\True/\True/\(∃ (g_1:Nat×Nat),A ((smI1 g).pre g_1)/\True/\(True/\z10/\z18/\z11/\z8/\(A z0/\A (z9=(↑g_1.fst:Int)))/\(A z0/\A (z36=(↑g_1.snd:Int)))/\True)/\z1/\True)/\∀ (g_1:Nat×Nat),let z82:=(↑g_1.snd:Int);let z77:=(↑g_1.fst:Int);let z30:=(z77+z82);let z87:=(IntKind.u64.wrap z30 / z37 ^ U z14);let z5:=(g.f z87.toNat); (smI1 g).pre g_1->True/\True/\True/\J (decide (z77<z82)) (True/\True/\A (z15<=z77+z82/\z77+z82<=z17)/\A True/\A z56/\A (z15<=IntKind.u64.wrap z30 / z37 ^ U z14/\IntKind.u64.wrap z30 / z37 ^ U z14<=z17)/\True/\True/\True/\True/\A (z68<=IntKind.u64.wrap z30 / z37 ^ U z14/\IntKind.u64.wrap z30 / z37 ^ U z14<z65)/\A (z87.toNat<g.n)/\True/\True/\A (z68<=z23/\z23<z65)/\A (z23.toNat<g.n)/\((((((((True/\A z0/\A (z5.x=z5.x))/\A z0/\A (z5.y=z5.y))/\A z0/\A (z5.en=z5.en))/\A z0/\A (z5.dx=z5.dx))/\A z0/\A (z5.dy=z5.dy))/\A z0/\A (z5.s=z5.s))/\((((((True/\A z0/\A (z57.x=z57.x))/\A z0/\A (z57.y=z57.y))/\A z0/\A (z57.en=z57.en))/\A z0/\A (z57.dx=z57.dx))/\A z0/\A (z57.dy=z57.dy))/\A z0/\A (z57.s=z57.s))/\True)/\A True)/\True/\J (decide (Flb.cmpI z5.y z57.y<z68)) (True/\A (z15<=IntKind.u64.wrap z30 / z37 ^ U z14+z14/\IntKind.u64.wrap z30 / z37 ^ U z14+z14<=z17)/\True/\∃ (g':Nat×Nat),A ((smI1 g).pre g')/\True/\((True/\z10/\z18/\z11/\z8/\(A z0/\A (IntKind.u64.wrap z30 / z37 ^ U z14+z14=(↑g'.fst:Int)))/\(A z0/\A (z82=(↑g'.snd:Int)))/\True)/\z1/\True)/\A ((smI1 g).meas g'<(smI1 g).meas g_1)) (True/\True/\∃ (g':Nat×Nat),A ((smI1 g).pre g')/\True/\((True/\z10/\z18/\z11/\z8/\(A z0/\A (z77=(↑g'.fst:Int)))/\(A z0/\A (IntKind.u64.wrap z30 / z37 ^ U z14=(↑g'.snd:Int)))/\True)/\z1/\True)/\A ((smI1 g).meas g'<(smI1 g).meas g_1))) (True/\True/\(∃ g_2:Nat,A ((smK1 g).pre g_2)/\True/\(True/\z10/\z18/\z11/\z8/\(A z0/\A (z77=z85))/\(A z0/\A (z23=(↑g_2:Int)))/\True)/\(A z66/\∀ i:Nat,let z48:=(Flc.rot g.f g.a g.m (g_2+z19) i); i<g.n->(((((True/\A z0/\A ((g.f i).x=z48.x))/\A z0/\A ((g.f i).y=z48.y))/\A z0/\A ((g.f i).en=z48.en))/\A z0/\A ((g.f i).dx=z48.dx))/\A z0/\A ((g.f i).dy=z48.dy))/\A z0/\A ((g.f i).s=z48.s))/\True)/\∀ g_2:Nat,let z25:=(↑g_2:Int);let z79:=(z25+z14);let z75:=(z15<=z25+z14/\z25+z14<=z17);let z39:=(Flc.rot g.f g.a g.m (g_2+z19) z25.toNat);let z38:=(Flc.rot g.f g.a g.m (g_2+z19) z79.toNat); (smK1 g).pre g_2->True/\True/\A (z15<=z85-z14/\z85-z14<=z17)/\True/\J (decide (z25<z85-z14)) (True/\True/\True/\True/\A z75/\True/\True/\A z75/\A (z68<=z25+z14/\z25+z14<z65)/\A (z79.toNat<g.n)/\True/\True/\A (z68<=z25/\z25<z65)/\A (z25.toNat<g.n)/\A (z68<=z25/\z25<z65)/\A (z25.toNat<g.n)/\A (z68<=z25+z14/\z25+z14<z65)/\A (z79.toNat<g.n)/\True/\A z75/\True/\∃ (g':Nat),A ((smK1 g).pre g')/\True/\((True/\z10/\z18/\z11/\z8/\(A z0/\A (z85=z85))/\(A z0/\A (z25+z14=(↑g':Int)))/\True)/\(A z66/\∀ i:Nat,let z52:=(Flc.rot g.f g.a g.m (g'+z19) i);let z49:=(Flc.rot g.f g.a g.m (g_2+z19) i); i<g.n->(((((True/\A z0/\A ((bif decide (i=z79.toNat/\z32<=z32/\z32<z32+z59) then z39.x else bif decide (i=z25.toNat/\z32<=z32/\z32<z32+z59) then z38.x else z49.x)=z52.x))/\A z0/\A ((bif decide (i=z79.toNat/\z32<=z19/\z19<z32+z59) then z39.y else bif decide (i=z25.toNat/\z32<=z19/\z19<z32+z59) then z38.y else z49.y)=z52.y))/\A z0/\A ((bif decide (i=z79.toNat/\z32<=z91/\z91<z32+z59) then z39.en else bif decide (i=z25.toNat/\z32<=z91/\z91<z32+z59) then z38.en else z49.en)=z52.en))/\A z0/\A ((bif decide (i=z79.toNat/\z32<=z92/\z92<z32+z59) then z39.dx else bif decide (i=z25.toNat/\z32<=z92/\z92<z32+z59) then z38.dx else z49.dx)=z52.dx))/\A z0/\A ((bif decide (i=z79.toNat/\z32<=z93/\z93<z32+z59) then z39.dy else bif decide (i=z25.toNat/\z32<=z93/\z93<z32+z59) then z38.dy else z49.dy)=z52.dy))/\A z0/\A ((bif decide (i=z79.toNat/\z32<=z94/\z94<z32+z59) then z39.s else bif decide (i=z25.toNat/\z32<=z94/\z94<z32+z59) then z38.s else z49.s)=z52.s))/\True)/\A ((smK1 g).meas g'<(smK1 g).meas g_2)) (True/\True/\z90/\(A z66/\∀ i:Nat,let z50:=(Flc.rot g.f g.a g.m (g_2+z19) i);let z45:=(Flc.symF (K+z19) g.f g.a g.m g.b i); i<g.n->(((((True/\A z0/\A (z50.x=z45.x))/\A z0/\A (z50.y=z45.y))/\A z0/\A (z50.en=z45.en))/\A z0/\A (z50.dx=z45.dx))/\A z0/\A (z50.dy=z45.dy))/\A z0/\A (z50.s=z45.s))/\True))) (True/\True/\A (z15<=z36-z9/\z36-z9<=z17)/\True/\J (decide (z36-z9=z14)) (True/\True/\True/\True/\(∃ (g_1:Nat×Nat),A ((smI2 g).pre g_1)/\True/\(True/\z10/\z18/\z11/\z8/\(A z0/\A (z23=(↑g_1.fst:Int)))/\(A z0/\A (z9=(↑g_1.snd:Int)))/\True)/\z1/\True)/\∀ (g_1:Nat×Nat),let z83:=(↑g_1.snd:Int);let z78:=(↑g_1.fst:Int);let z31:=(z78+z83);let z88:=(IntKind.u64.wrap z31 / z37 ^ U z14);let z6:=(g.f z88.toNat); (smI2 g).pre g_1->True/\True/\True/\J (decide (z78<z83)) (True/\True/\A (z15<=z78+z83/\z78+z83<=z17)/\A True/\A z56/\A (z15<=IntKind.u64.wrap z31 / z37 ^ U z14/\IntKind.u64.wrap z31 / z37 ^ U z14<=z17)/\True/\True/\True/\True/\A (z68<=z9/\z9<z65)/\A (z9.toNat<g.n)/\True/\True/\A (z68<=IntKind.u64.wrap z31 / z37 ^ U z14/\IntKind.u64.wrap z31 / z37 ^ U z14<z65)/\A (z88.toNat<g.n)/\((((((((True/\A z0/\A (z58.x=z58.x))/\A z0/\A (z58.y=z58.y))/\A z0/\A (z58.en=z58.en))/\A z0/\A (z58.dx=z58.dx))/\A z0/\A (z58.dy=z58.dy))/\A z0/\A (z58.s=z58.s))/\((((((True/\A z0/\A (z6.x=z6.x))/\A z0/\A (z6.y=z6.y))/\A z0/\A (z6.en=z6.en))/\A z0/\A (z6.dx=z6.dx))/\A z0/\A (z6.dy=z6.dy))/\A z0/\A (z6.s=z6.s))/\True)/\A True)/\True/\True/\J (!decide (Flb.cmpI z58.y z6.y<z68)) (True/\A (z15<=IntKind.u64.wrap z31 / z37 ^ U z14+z14/\IntKind.u64.wrap z31 / z37 ^ U z14+z14<=z17)/\True/\∃ (g':Nat×Nat),A ((smI2 g).pre g')/\True/\((True/\z10/\z18/\z11/\z8/\(A z0/\A (IntKind.u64.wrap z31 / z37 ^ U z14+z14=(↑g'.fst:Int)))/\(A z0/\A (z83=(↑g'.snd:Int)))/\True)/\z1/\True)/\A ((smI2 g).meas g'<(smI2 g).meas g_1)) (True/\True/\∃ (g':Nat×Nat),A ((smI2 g).pre g')/\True/\((True/\z10/\z18/\z11/\z8/\(A z0/\A (z78=(↑g'.fst:Int)))/\(A z0/\A (IntKind.u64.wrap z31 / z37 ^ U z14=(↑g'.snd:Int)))/\True)/\z1/\True)/\A ((smI2 g).meas g'<(smI2 g).meas g_1))) (True/\True/\(∃ g_2:Nat,A ((smK2 g).pre g_2)/\True/\(True/\z10/\z18/\z11/\z8/\(A z0/\A (z78=(↑g.s2:Int)))/\(A z0/\A (z9=(↑g_2:Int)))/\True)/\(A z66/\∀ i:Nat,let z60:=(Flc.rot g.f g_2 g.m z35 i); i<g.n->(((((True/\A z0/\A ((g.f i).x=z60.x))/\A z0/\A ((g.f i).y=z60.y))/\A z0/\A ((g.f i).en=z60.en))/\A z0/\A ((g.f i).dx=z60.dx))/\A z0/\A ((g.f i).dy=z60.dy))/\A z0/\A ((g.f i).s=z60.s))/\True)/\∀ g_2:Nat,let z26:=(↑g_2:Int);let z80:=(z26-z14);let z76:=(z15<=z26-z14/\z26-z14<=z17);let z51:=(Flc.rot g.f g_2 g.m z35 z26.toNat);let z40:=(Flc.rot g.f g_2 g.m z35 z80.toNat); (smK2 g).pre g_2->True/\True/\True/\J (decide ((↑g.s2:Int)<z26)) (True/\True/\True/\True/\A z76/\True/\True/\A z76/\A (z68<=z26-z14/\z26-z14<z65)/\A (z80.toNat<g.n)/\True/\True/\A (z68<=z26/\z26<z65)/\A (z26.toNat<g.n)/\A (z68<=z26/\z26<z65)/\A (z26.toNat<g.n)/\A (z68<=z26-z14/\z26-z14<z65)/\A (z80.toNat<g.n)/\True/\A z76/\True/\∃ (g':Nat),A ((smK2 g).pre g')/\True/\((True/\z10/\z18/\z11/\z8/\(A z0/\A ((↑g.s2:Int)=(↑g.s2:Int)))/\(A z0/\A (z26-z14=(↑g':Int)))/\True)/\(A z66/\∀ i:Nat,let z63:=(Flc.rot g.f g' g.m z35 i);let z61:=(Flc.rot g.f g_2 g.m z35 i); i<g.n->(((((True/\A z0/\A ((bif decide (i=z80.toNat/\z32<=z32/\z32<z32+z59) then z51.x else bif decide (i=z26.toNat/\z32<=z32/\z32<z32+z59) then z40.x else z61.x)=z63.x))/\A z0/\A ((bif decide (i=z80.toNat/\z32<=z19/\z19<z32+z59) then z51.y else bif decide (i=z26.toNat/\z32<=z19/\z19<z32+z59) then z40.y else z61.y)=z63.y))/\A z0/\A ((bif decide (i=z80.toNat/\z32<=z91/\z91<z32+z59) then z51.en else bif decide (i=z26.toNat/\z32<=z91/\z91<z32+z59) then z40.en else z61.en)=z63.en))/\A z0/\A ((bif decide (i=z80.toNat/\z32<=z92/\z92<z32+z59) then z51.dx else bif decide (i=z26.toNat/\z32<=z92/\z92<z32+z59) then z40.dx else z61.dx)=z63.dx))/\A z0/\A ((bif decide (i=z80.toNat/\z32<=z93/\z93<z32+z59) then z51.dy else bif decide (i=z26.toNat/\z32<=z93/\z93<z32+z59) then z40.dy else z61.dy)=z63.dy))/\A z0/\A ((bif decide (i=z80.toNat/\z32<=z94/\z94<z32+z59) then z51.s else bif decide (i=z26.toNat/\z32<=z94/\z94<z32+z59) then z40.s else z61.s)=z63.s))/\True)/\A ((smK2 g).meas g'<(smK2 g).meas g_2)) (True/\True/\z90/\(A z66/\∀ i:Nat,let z62:=(Flc.rot g.f g_2 g.m z35 i);let z46:=(Flc.symF (K+z19) g.f g.a g.m g.b i); i<g.n->(((((True/\A z0/\A (z62.x=z46.x))/\A z0/\A (z62.y=z46.y))/\A z0/\A (z62.en=z46.en))/\A z0/\A (z62.dx=z46.dx))/\A z0/\A (z62.dy=z46.dy))/\A z0/\A (z62.s=z46.s))/\True))) (True/\True/\A (z15<=z23+z36/\z23+z36<=z17)/\A True/\A z56/\A (z15<=IntKind.u64.wrap z69 / z37 ^ U z14/\IntKind.u64.wrap z69 / z37 ^ U z14<=z17)/\True/\True/\True/\A (z15<=IntKind.u64.wrap z69 / z37 ^ U z14+z9/\IntKind.u64.wrap z69 / z37 ^ U z14+z9<=z17)/\True/\True/\True/\(True/\True/\True/\J (decide (IntKind.u64.wrap z69 / z37 ^ U z14<z9)) (True/\True/\A (z15<=IntKind.u64.wrap z69 / z37 ^ U z14+z9-z36/\IntKind.u64.wrap z69 / z37 ^ U z14+z9-z36<=z17)/\True/\True/\True/\∃ (g_1:Nat×Nat),A ((smC0 g).pre g_1)/\True/\(True/\z10/\z18/\z11/\z8/\z74/\z72/\(A z0/\A (IntKind.u64.wrap z69 / z37 ^ U z14+z9-z36=(↑g_1.fst:Int)))/\(A z0/\A (IntKind.u64.wrap z69 / z37 ^ U z14=(↑g_1.snd:Int)))/\True)/\z1/\True) (True/\True/\True/\True/\∃ (g_1:Nat×Nat),A ((smC0 g).pre g_1)/\True/\(True/\z10/\z18/\z11/\z8/\z74/\z72/\(A z0/\A (z23=(↑g_1.fst:Int)))/\(A z0/\A (z9=(↑g_1.snd:Int)))/\True)/\z1/\True))/\∀ (g_1:Nat×Nat),(smC0 g).pre g_1->True/\A (z15<=z2+z9-z14/\z2+z9-z14<=z17)/\True/\(∃ (g_2:Nat×Nat),A ((smI3 g).pre g_2)/\True/\(True/\z10/\z18/\z11/\z8/\z64/\z73/\(A z0/\A ((↑g_1.fst:Int)=(↑g_2.fst:Int)))/\(A z0/\A ((↑g_1.snd:Int)=(↑g_2.snd:Int)))/\z67/\True)/\z1/\True)/\∀ (g_2:Nat×Nat),let z84:=(↑g_2.snd:Int);let z16:=(↑g_2.fst:Int);let z95:=(z2+z9-z16);let z29:=(z16+z84);let z89:=(IntKind.u64.wrap z29 / z37 ^ U z14);let z81:=(z2+z9-z14-IntKind.u64.wrap z29 / z37 ^ U z14);let z27:=(True/\z10/\z18/\z11/\z8/\z64/\(A z0/\A (z16=z70))/\(A z0/\A (z2+z9-z16=z71))/\True);let z7:=(g.f z89.toNat);let z3:=(g.f z81.toNat); (smI3 g).pre g_2->True/\True/\True/\J (decide (z16<z84)) (True/\True/\A (z15<=z16+z84/\z16+z84<=z17)/\A True/\A z56/\A (z15<=IntKind.u64.wrap z29 / z37 ^ U z14/\IntKind.u64.wrap z29 / z37 ^ U z14<=z17)/\True/\True/\True/\True/\True/\A (z15<=z2+z9-z14-IntKind.u64.wrap z29 / z37 ^ U z14/\z2+z9-z14-IntKind.u64.wrap z29 / z37 ^ U z14<=z17)/\A (z68<=z2+z9-z14-IntKind.u64.wrap z29 / z37 ^ U z14/\z2+z9-z14-IntKind.u64.wrap z29 / z37 ^ U z14<z65)/\A (z81.toNat<g.n)/\True/\True/\A (z68<=IntKind.u64.wrap z29 / z37 ^ U z14/\IntKind.u64.wrap z29 / z37 ^ U z14<z65)/\A (z89.toNat<g.n)/\((((((((True/\A z0/\A (z3.x=z3.x))/\A z0/\A (z3.y=z3.y))/\A z0/\A (z3.en=z3.en))/\A z0/\A (z3.dx=z3.dx))/\A z0/\A (z3.dy=z3.dy))/\A z0/\A (z3.s=z3.s))/\((((((True/\A z0/\A (z7.x=z7.x))/\A z0/\A (z7.y=z7.y))/\A z0/\A (z7.en=z7.en))/\A z0/\A (z7.dx=z7.dx))/\A z0/\A (z7.dy=z7.dy))/\A z0/\A (z7.s=z7.s))/\True)/\A True)/\True/\True/\J (!decide (Flb.cmpI z3.y z7.y<z68)) (True/\A (z15<=IntKind.u64.wrap z29 / z37 ^ U z14+z14/\IntKind.u64.wrap z29 / z37 ^ U z14+z14<=z17)/\True/\∃ (g':Nat×Nat),A ((smI3 g).pre g')/\True/\((True/\z10/\z18/\z11/\z8/\z64/\z73/\(A z0/\A (IntKind.u64.wrap z29 / z37 ^ U z14+z14=(↑g'.fst:Int)))/\(A z0/\A (z84=(↑g'.snd:Int)))/\z67/\True)/\z1/\True)/\A ((smI3 g).meas g'<(smI3 g).meas g_2)) (True/\True/\∃ (g':Nat×Nat),A ((smI3 g).pre g')/\True/\((True/\z10/\z18/\z11/\z8/\z64/\z73/\(A z0/\A (z16=(↑g'.fst:Int)))/\(A z0/\A (IntKind.u64.wrap z29 / z37 ^ U z14=(↑g'.snd:Int)))/\z67/\True)/\z1/\True)/\A ((smI3 g).meas g'<(smI3 g).meas g_2))) (True/\True/\A (z15<=z2+z9-z16/\z2+z9-z16<=z17)/\True/\(True/\True/\True/\True/\J (decide (z16<z9)) (True/\True/\True/\True/\J (decide (z9<z2+z9-z16)) (True/\True/\True/\True/\True/\((True/\(True/\(A z0/\A (z16=(↑z16.toNat:Int)))/\(A z0/\A (z9=(↑z9.toNat:Int)))/\(A z0/\A (z2+z9-z16=(↑z95.toNat:Int)))/\z8/\True)/\z1/\True)/\A ((z16.toNat<z9.toNat/\z9.toNat<z95.toNat/\z95.toNat<=g.n)/\g.n<=(4294967296:Nat)))/\∃ g_3:Unit,A ((smC1 g).pre g_3)/\True/\z27/\(A z66/\∀ i:Nat,let z55:=(Flc.symR g.f g.a g.m g.b g.s3 i);let z33:=(Flc.rot g.f z16.toNat z9.toNat z95.toNat i); i<g.n->(((((True/\A z0/\A (z33.x=z55.x))/\A z0/\A (z33.y=z55.y))/\A z0/\A (z33.en=z55.en))/\A z0/\A (z33.dx=z55.dx))/\A z0/\A (z33.dy=z55.dy))/\A z0/\A (z33.s=z55.s))/\True) (∃ g_3:Unit,A ((smC1 g).pre g_3)/\True/\z27/\z21/\True)) (True/\∃ g_3:Unit,A ((smC1 g).pre g_3)/\True/\z27/\z21/\True))/\∀ g_3:Unit,(smC1 g).pre g_3->(True/\True/\True/\True/\J (decide (z23<z70)) (True/\True/\True/\True/\J (decide (z70<z2)) (True/\True/\True/\True/\True/\((True/\(True/\(A z0/\A (z23=(↑z23.toNat:Int)))/\(A z0/\A (z70=(↑z70.toNat:Int)))/\z86/\z8/\True)/\(A z66/\∀ i:Nat,let z28:=(Flc.symR g.f g.a g.m g.b g.s3 i); i<g.n->(((((True/\A z0/\A (z28.x=z28.x))/\A z0/\A (z28.y=z28.y))/\A z0/\A (z28.en=z28.en))/\A z0/\A (z28.dx=z28.dx))/\A z0/\A (z28.dy=z28.dy))/\A z0/\A (z28.s=z28.s))/\True)/\A ((z23.toNat<z70.toNat/\z70.toNat<z2.toNat/\z2.toNat<=g.n)/\g.n<=(4294967296:Nat)/\z2.toNat-z23.toNat<=K))/\∃ g_4:Unit,A ((smC2 K g).pre g_4)/\True/\z24/\(A z66/\∀ i:Nat,let z43:=(Flc.symL z96 z4 g.a g.b g.s3 i);let z34:=(Flc.symF K z4 z23.toNat z70.toNat z2.toNat i); i<g.n->(((((True/\A z0/\A (z34.x=z43.x))/\A z0/\A (z34.y=z43.y))/\A z0/\A (z34.en=z43.en))/\A z0/\A (z34.dx=z43.dx))/\A z0/\A (z34.dy=z43.dy))/\A z0/\A (z34.s=z43.s))/\True) (∃ g_4:Unit,A ((smC2 K g).pre g_4)/\True/\z24/\z13/\True)) (True/\∃ g_4:Unit,A ((smC2 K g).pre g_4)/\True/\z24/\z13/\True))/\∀ g_4:Unit,(smC2 K g).pre g_4->True/\True/\True/\True/\J (decide (z2<z71)) (True/\True/\True/\True/\J (decide (z71<z36)) (True/\True/\True/\True/\True/\((True/\(True/\z86/\(A z0/\A (z71=(↑z71.toNat:Int)))/\(A z0/\A (z36=(↑z36.toNat:Int)))/\z8/\True)/\(A z66/\∀ i:Nat,let z22:=(Flc.symL z96 z4 g.a g.b g.s3 i); i<g.n->(((((True/\A z0/\A (z22.x=z22.x))/\A z0/\A (z22.y=z22.y))/\A z0/\A (z22.en=z22.en))/\A z0/\A (z22.dx=z22.dx))/\A z0/\A (z22.dy=z22.dy))/\A z0/\A (z22.s=z22.s))/\True)/\A ((z2.toNat<z71.toNat/\z71.toNat<z36.toNat/\z36.toNat<=g.n)/\g.n<=(4294967296:Nat)/\z36.toNat-z2.toNat<=K))/\True/\True/\z90/\(A z66/\∀ i:Nat,let z47:=(Flc.symF (K+z19) g.f g.a g.m g.b i);let z20:=(Flc.symF K (Flc.symL z96 z4 g.a g.b g.s3) z2.toNat z71.toNat z36.toNat i); i<g.n->(((((True/\A z0/\A (z20.x=z47.x))/\A z0/\A (z20.y=z47.y))/\A z0/\A (z20.en=z47.en))/\A z0/\A (z20.dx=z47.dx))/\A z0/\A (z20.dy=z47.dy))/\A z0/\A (z20.s=z47.s))/\True) (True/\True/\z90/\z12/\True)) (True/\True/\True/\z90/\z12/\True))))) (by kernel_rfl) ?_
 simp only [ask_iff,br_iff,eq_self,true_and,and_true,implies_true,forall_const,decide_eq_true_eq,decide_eq_false_iff_not,ne_eq,Nat.mul_one,Nat.add_zero,Nat.zero_add,Int.toNat_natCast,and_self,List.append_assoc,false_and,and_false]
 obtain ⟨⟨h1,h2,h3⟩,hn,hK⟩:=hg
 have hm:2*mid g.a g.b<=g.a+g.b/\g.a+g.b<=2*mid g.a g.b+1:=by unfold mid; omega
 refine ⟨by omega,fun c1=>⟨⟨(g.m,g.b),⟨⟨Nat.le_refl _,by show g.m<=g.b; omega,Nat.le_refl _⟩,rfl⟩,rfl,rfl⟩,fun r hr=>?_⟩,fun c1=>⟨by omega,fun c2=>⟨⟨(g.a,g.m),⟨⟨Nat.le_refl _,by show g.a<=g.m; omega,Nat.le_refl _⟩,rfl⟩,rfl,rfl⟩,fun r hr=>?_⟩,fun c2=>?_⟩⟩
 ·obtain ⟨i,j⟩:=r
  have hr:(g.m<=i/\i<=j/\j<=g.b)/\bs g.p1 i j=g.s1:=hr
  obtain ⟨⟨r1,r2,r3⟩,hs⟩:=hr
  simp only []
  refine ⟨fun hlt=>?_,fun hge=>?_⟩
  ·rw [half i j (by omega) (by omega),Int.toNat_natCast]
   iterate 7 (apply And.intro; · first | omega | exact ⟨by decide,by decide⟩)
   rw [cmp_neg]
   refine ⟨fun hc=>⟨by omega,((i+j) / 2+1,j),⟨⟨by show g.m<=(i+j) / 2+1; omega,by show (i+j) / 2+1<=j; omega,r3⟩,?_⟩,⟨by show _=(((i+j) / 2+1:Nat):Int); omega,rfl⟩,by show j-((i+j) / 2+1)<j-i; omega⟩,fun hc=>⟨(i,(i+j) / 2),⟨⟨r1,by show i<=(i+j) / 2; omega,by show (i+j) / 2<=g.b; omega⟩,?_⟩,⟨rfl,rfl⟩,by show (i+j) / 2-i<j-i; omega⟩⟩
   ·rw [<-hs]
    exact bs_up g.p1 (by omega) (decide_eq_true hc)
   ·rw [<-hs]
    exact bs_dn g.p1 (by omega) (decide_eq_false hc)
  ·have ei:i=g.s1:=by rw [<-hs,bs_end g.p1 (by omega)]
   refine ⟨⟨g.a,⟨Nat.le_refl _,by omega⟩,⟨by rw [ei],rfl⟩,fun k _=>same_of (by rw [rot_none g.f (by omega) (by omega) (by omega)])⟩,fun k hk=>⟨by omega,fun hlt=>?_,fun hge k' _=>same_of ?_⟩⟩
   ·have hk:g.a<=k/\k+1<=g.s1:=hk
    have e1:((k:Int)+1).toNat=k+1:=by omega
    rw [e1]
    iterate 11 (apply And.intro; · omega)
    refine ⟨k+1,⟨by show g.a<=k+1; omega,by show k+1+1<=g.s1; omega⟩,⟨by omega,fun t _=>?_⟩,by show g.s1-(k+1)<g.s1-k; omega⟩
    exact upd2 (p:=t=k+1) (q:=t=k) (rot_push g.f (by omega) (by omega) t) ⟨by simp,by simp,by simp,by simp,by simp,by simp⟩ ⟨by simp,by simp,by simp,by simp,by simp,by simp⟩
   ·have hk:g.a<=k/\k+1<=g.s1:=hk
    rw [show k+1=g.s1 by omega]
    simp only [symF]
    rw [if_pos (show g.m-g.a=1 by omega)]
    rfl
 ·obtain ⟨i,j⟩:=r
  have hr:(g.a<=i/\i<=j/\j<=g.m)/\bs g.p2 i j=g.s2:=hr
  obtain ⟨⟨r1,r2,r3⟩,hs⟩:=hr
  simp only []
  refine ⟨fun hlt=>?_,fun hge=>?_⟩
  ·rw [half i j (by omega) (by omega),Int.toNat_natCast]
   iterate 7 (apply And.intro; · first | omega | exact ⟨by decide,by decide⟩)
   simp only [cmp_neg]
   refine ⟨fun hc=>⟨by omega,((i+j) / 2+1,j),⟨⟨by show g.a<=(i+j) / 2+1; omega,by show (i+j) / 2+1<=j; omega,r3⟩,?_⟩,⟨by show _=(((i+j) / 2+1:Nat):Int); omega,rfl⟩,by show j-((i+j) / 2+1)<j-i; omega⟩,fun hc=>⟨(i,(i+j) / 2),⟨⟨r1,by show i<=(i+j) / 2; omega,by show (i+j) / 2<=g.m; omega⟩,?_⟩,⟨rfl,rfl⟩,by show (i+j) / 2-i<j-i; omega⟩⟩
   ·rw [<-hs]
    exact bs_up g.p2 (by omega) hc
   ·rw [<-hs]
    exact bs_dn g.p2 (by omega) hc
  ·have ei:i=g.s2:=by rw [<-hs,bs_end g.p2 (by omega)]
   refine ⟨⟨g.m,⟨by omega,Nat.le_refl _⟩,⟨by rw [ei],rfl⟩,fun k _=>same_of (by rw [rot_none g.f (by omega) (by omega) (by omega)])⟩,fun k hk=>⟨fun hlt=>?_,fun hge k' _=>same_of ?_⟩⟩
   ·have hk:g.s2<=k/\k<=g.m:=hk
    have e1:((k:Int)-1).toNat=k-1:=by omega
    rw [e1]
    iterate 11 (apply And.intro; · omega)
    refine ⟨k-1,⟨by show g.s2<=k-1; omega,by show k-1<=g.m; omega⟩,⟨by omega,fun t _=>?_⟩,by show k-1<k; omega⟩
    exact upd2 (p:=t=k-1) (q:=t=k) (rot_pull g.f (by omega) (by omega) t) ⟨by simp,by simp,by simp,by simp,by simp,by simp⟩ ⟨by simp,by simp,by simp,by simp,by simp,by simp⟩
   ·have hk:g.s2<=k/\k<=g.m:=hk
    rw [show k=g.s2 by omega,show g.b=g.m+1 by omega]
    simp only [symF]
    rw [if_neg (show ¬ g.m-g.a=1 by omega),if_pos (show g.m+1-g.m=1 by omega)]
    rfl
 ·rw [half g.a g.b (by omega) (by omega)]
  have hmid:(g.a+g.b) / 2=mid g.a g.b:=rfl
  rw [hmid]
  have hcut:=cut_in g.f h1 h2
  change g.a<=g.s3/\g.s3<=g.m/\g.s3<=mid g.a g.b/\g.e3<=g.b/\g.m<=g.e3 at hcut
  have hsum:g.e3=mid g.a g.b+g.m-g.s3:=rfl
  refine ⟨by omega,⟨by decide,by decide⟩,by omega,by omega,⟨fun c3=>⟨by omega,(mid g.a g.b+g.m-g.b,mid g.a g.b),⟨⟨⟨by show g.a<=mid g.a g.b+g.m-g.b; omega,by show mid g.a g.b<=g.m; omega⟩,Nat.le_refl _,by show mid g.a g.b+g.m<=g.b+(mid g.a g.b+g.m-g.b); omega,by show mid g.a g.b+g.m-g.b<=mid g.a g.b; omega⟩,?_⟩,rfl,rfl,by show _=((mid g.a g.b+g.m-g.b:Nat):Int); omega,rfl⟩,fun c3=>⟨(g.a,g.m),⟨⟨⟨Nat.le_refl _,Nat.le_refl _⟩,by show g.m<=mid g.a g.b; omega,by show mid g.a g.b+g.m<=g.b+g.a; omega,by show g.a<=g.m; omega⟩,?_⟩,rfl,rfl,rfl,rfl⟩⟩,fun r hr=>⟨?_,⟨r,hr,rfl,rfl⟩,fun r2 hr2=>?_⟩⟩
  ·show _=cutB g.f g.a g.m g.b
   unfold cutB
   rw [if_pos (by omega),if_pos (by omega)]
   rfl
  ·show _=cutB g.f g.a g.m g.b
   unfold cutB
   rw [if_neg (by omega),if_neg (by omega)]
   rfl
  ·omega
  ·clear hr r
   obtain ⟨i,j⟩:=r2
   have hr:((g.a<=i/\j<=g.m)/\j<=mid g.a g.b/\mid g.a g.b+g.m<=g.b+i/\i<=j)/\bs g.p3 i j=g.s3:=hr2
   obtain ⟨⟨⟨r1,r2⟩,r3,r4,r5⟩,hs⟩:=hr
   simp only []
   refine ⟨fun hlt=>?_,fun hge=>?_⟩
   ·rw [half i j (by omega) (by omega),Int.toNat_natCast]
    have e1:((mid g.a g.b:Int)+(g.m:Int)-1-(((i+j) / 2:Nat):Int)).toNat=mid g.a g.b+g.m-1-(i+j) / 2:=by omega
    rw [e1]
    iterate 8 (apply And.intro; · first | omega | exact ⟨by decide,by decide⟩)
    simp only [cmp_neg]
    refine ⟨fun hc=>⟨by omega,((i+j) / 2+1,j),⟨⟨⟨by show g.a<=(i+j) / 2+1; omega,r2⟩,r3,by show mid g.a g.b+g.m<=g.b+((i+j) / 2+1); omega,by show (i+j) / 2+1<=j; omega⟩,?_⟩,⟨by show _=(((i+j) / 2+1:Nat):Int); omega,rfl⟩,by show j-((i+j) / 2+1)<j-i; omega⟩,fun hc=>⟨(i,(i+j) / 2),⟨⟨⟨r1,by show (i+j) / 2<=g.m; omega⟩,by show (i+j) / 2<=mid g.a g.b; omega,r4,by show i<=(i+j) / 2; omega⟩,?_⟩,⟨rfl,rfl⟩,by show (i+j) / 2-i<j-i; omega⟩⟩
    ·rw [<-hs]
     exact bs_up g.p3 (by omega) hc
    ·rw [<-hs]
     exact bs_dn g.p3 (by omega) hc
   ·have ei:i=g.s3:=by rw [<-hs,bs_end g.p3 (by omega)]
    rw [ei]
    have e1:((mid g.a g.b:Int)+(g.m:Int)-(g.s3:Int)).toNat=g.e3:=by omega
    rw [e1]
    refine ⟨by omega,⟨fun c3=>⟨fun c4=>⟨⟨by omega,⟨by omega,by omega,by omega⟩,hn⟩,(),trivial,⟨rfl,by omega⟩,fun k _=>same_of ?_⟩,fun c4=>⟨(),trivial,⟨rfl,by omega⟩,fun k _=>same_of ?_⟩⟩,fun c3=>⟨(),trivial,⟨rfl,by omega⟩,fun k _=>same_of ?_⟩⟩,fun _ _=>⟨⟨fun c3=>⟨fun c4=>⟨⟨⟨by omega,by omega,by omega⟩,hn,by omega⟩,(),trivial,fun k _=>same_of ?_⟩,fun c4=>⟨(),trivial,fun k _=>same_of ?_⟩⟩,fun c3=>⟨(),trivial,fun k _=>same_of ?_⟩⟩,fun _ _=>⟨fun c3=>⟨fun c4=>⟨⟨⟨by omega,by omega,by omega⟩,hn,by omega⟩,fun k _=>same_of ?_⟩,fun c4 k _=>same_of ?_⟩,fun c3 k _=>same_of ?_⟩⟩⟩
    ·unfold symR
     rw [if_pos (show g.s3<g.m/\g.m<mid g.a g.b+g.m-g.s3 by omega)]
     rfl
    ·unfold symR
     rw [if_neg (show ¬ (g.s3<g.m/\g.m<mid g.a g.b+g.m-g.s3) by omega)]
    ·unfold symR
     rw [if_neg (show ¬ (g.s3<g.m/\g.m<mid g.a g.b+g.m-g.s3) by omega)]
    ·unfold symL
     rw [if_pos (show g.a<g.s3/\g.s3<mid g.a g.b by omega)]
    ·unfold symL
     rw [if_neg (show ¬ (g.a<g.s3/\g.s3<mid g.a g.b) by omega)]
    ·unfold symL
     rw [if_neg (show ¬ (g.a<g.s3/\g.s3<mid g.a g.b) by omega)]
    ·have e:=symF_step K g.f (a:=g.a) (m:=g.m) (b:=g.b) (by omega) (by omega)
     rw [e]
     unfold symH
     rw [if_pos (show mid g.a g.b<mid g.a g.b+g.m-cutB g.f g.a g.m g.b/\mid g.a g.b+g.m-cutB g.f g.a g.m g.b<g.b from ⟨by show mid g.a g.b<g.e3; omega,by show g.e3<g.b; omega⟩)]
     rfl
    ·have e:=symF_step K g.f (a:=g.a) (m:=g.m) (b:=g.b) (by omega) (by omega)
     rw [e]
     unfold symH
     rw [if_neg (show ¬ (mid g.a g.b<mid g.a g.b+g.m-cutB g.f g.a g.m g.b/\mid g.a g.b+g.m-cutB g.f g.a g.m g.b<g.b) from fun hh=>by have:g.e3<g.b:=hh.2; omega)]
     rfl
    ·have e:=symF_step K g.f (a:=g.a) (m:=g.m) (b:=g.b) (by omega) (by omega)
     rw [e]
     unfold symH
     rw [if_neg (show ¬ (mid g.a g.b<mid g.a g.b+g.m-cutB g.f g.a g.m g.b/\mid g.a g.b+g.m-cutB g.f g.a g.m g.b<g.b) from fun hh=>by have:mid g.a g.b<g.e3:=hh.1; omega)]
     rfl
end Go.Proofs.YtmhofgchidojoaaGreat.Sra
set_option linter.unusedSimpArgs false
set_option linter.unusedVariables false
namespace Go.Proofs.YtmhofgchidojoaaGreat.Flc
open Go.RowKit Sx Num Aff Con Fla Flb Sra
set_option maxRecDepth 100000
theorem withHoles_of' {os:List SO}{ps:List NP}{a:Prop}(h:a) (hh:holesO os ps):withHoles os ps a:=by
 unfold withHoles
 split
 ·exact ⟨h,hh⟩
 ·exact h
theorem specM_any {P:Program}{f:FuncId}{paths:List NP}{γ:Type}{dec:List SV->List SO->Option γ}{args:γ->List SV}{objs:γ->List SO}{res:γ->SV}{preK:Nat->γ->Prop}{postK:Nat->γ->List SO}{pre:γ->Prop}{post:γ->List SO}
  (h:∀ K,SpecOK P (mkSpecM f paths dec args objs (preK K) res (postK K))) (hk:∀ g,pre g->∃ K,preK K g/\postK K g=post g):SpecOK P (mkSpecM f paths dec args objs pre res post):=by
 refine ⟨(h 0).1,fun l H HF nm y he _ hrun=>?_,fun l H nm y hrun hask w0 X0 E w hrep hfree vals ha=>?_⟩
 ·simp only [mkSpecM] at hrun ⊢
  split at hrun
  case h_2=>cases hrun
  rename_i ks hks
  rw [namesOf_ext he paths [] ks hks]
  split at hrun
  case h_2=>cases hrun
  rename_i hc
  simp only
  rw [objsAt_ext he (Bool.and_eq_true _ _▸hc).2,hc]
  exact hrun
 ·simp only [mkSpecM] at hrun
  split at hrun
  case h_2=>cases hrun
  rename_i ks hks
  split at hrun
  case h_2=>cases hrun
  rename_i hc
  split at hrun
  case h_2=>cases hrun
  rename_i g hdec
  cases hrun
  obtain ⟨⟨hle,⟨hpre⟩⟩,hho⟩:=withHoles_get hask
  obtain ⟨K,h1,h2⟩:=hk g hpre
  have key:(mkSpecM f paths dec args objs (preK K) res (postK K)).run l H nm=some ⟨withHoles (objsAt H ks) paths (argLe (l.map (sml (objsAt H ks) ks)) ((objsAt H ks).map (smlO (objsAt H ks) ks)) (args g) (objs g)/\Sx.Ask (preK K g)),big (objsAt H ks) ks (res g),.sets (setsOf (objsAt H ks) ks (post g) ks 0)⟩:=by
   simp only [mkSpecM,hks,hc,hdec,h2]
  exact (h K).2.2 l H nm _ key (withHoles_of' ⟨hle,⟨h1⟩⟩ hho) w0 X0 E w hrep hfree vals ha
def spSym:FSpec:=mkSpecM 87 [.arg 0] smD smA (fun g=>[edRow 0 g.n g.f]) (fun g=>(g.a<g.m/\g.m<g.b/\g.b<=g.n)/\g.n<=4294967296) (fun _=> .tup 0 (lst [])) (fun g=>[edRow 0 g.n (symA g.f g.a g.m g.b)])
theorem specM_never {P:Program}{f:FuncId}{paths:List NP}{γ:Type}{dec:List SV->List SO->Option γ}{args:γ->List SV}{objs:γ->List SO}{res:γ->SV}{pre:γ->Prop}{post:γ->List SO}
  (hent:∀ args w,(callFunc f args).run P w = .ok (.enter f args) w) (h:∀ g,¬ pre g):SpecOK P (mkSpecM f paths dec args objs pre res post):=by
 refine ⟨hent,fun l H HF nm y he _ hrun=>?_,fun l H nm y hrun hask w0 X0 E w hrep hfree vals ha=>?_⟩
 ·simp only [mkSpecM] at hrun ⊢
  split at hrun
  case h_2=>cases hrun
  rename_i ks hks
  rw [namesOf_ext he paths [] ks hks]
  split at hrun
  case h_2=>cases hrun
  rename_i hc
  simp only
  rw [objsAt_ext he (Bool.and_eq_true _ _▸hc).2,hc]
  exact hrun
 ·simp only [mkSpecM] at hrun
  split at hrun
  case h_2=>cases hrun
  split at hrun
  case h_2=>cases hrun
  split at hrun
  case h_2=>cases hrun
  cases hrun
  obtain ⟨⟨hle,⟨hpre⟩⟩,-⟩:=withHoles_get hask
  exact absurd hpre (h _)
theorem ok_sym0:SpecOK Tryz.prog (spSymK 0):=specM_never (fun _ _=>by kernel_rfl) fun g hg=>by
 obtain ⟨⟨h1,h2,_⟩,_,h3⟩:=hg
 omega
theorem ok_symK:∀ K,SpecOK Tryz.prog (spSymK K)
 | 0=>ok_sym0
 | K+1=>ok_symS K (ok_symK K)
theorem ok_sym:SpecOK Tryz.prog spSym:=specM_any (preK:=fun (K:Nat) (g:SmG)=>(g.a<g.m/\g.m<g.b/\g.b<=g.n)/\g.n<=4294967296/\g.b-g.a<=K) (postK:=fun (K:Nat) (g:SmG)=>[edRow 0 g.n (symF K g.f g.a g.m g.b)]) ok_symK fun g hg=>⟨g.b-g.a,⟨hg.1,hg.2,Nat.le_refl _⟩,rfl⟩
structure SoG where
 n:Nat
 f:Nat->Ed
def soD:List SV->List SO->Option SoG
 | _,[.row _ n _ g _]=>some ⟨n,fun i=>edD (g i)⟩
 | _,_=>none
def srtE (g:SoG):Nat->Ed:=srtF g.f g.n
structure StI where
 h:Nat->Ed
 a:Nat
 k:Nat
def stE (g:SoG):List (Nat×SV):=[(0,.osl 0 0),(1,.int .i64 g.n),(2,cmpS)]
def stI1 (g:SoG):Inv:=⟨StI,fun s=>(s.a<=g.n/\g.n<s.a+s.k)/\insB g.n s.k s.h s.a=insB g.n (g.n+1) g.f 0,fun s=>⟨stE g++[(6,.int .i64 20),(7,.int .i64 s.a),(8,.int .i64 (s.a+20))],[edRow 0 g.n s.h]⟩,fun s=>g.n-s.a⟩
def stI2 (g:SoG):Inv:=⟨StI,fun s=>(20<=s.a/\s.a<=2*g.n+20)/\g.n<=s.a+s.k/\mrgF g.n s.k s.h s.a=srtE g,fun s=>⟨stE g++[(6,.int .i64 s.a)],[edRow 0 g.n s.h]⟩,fun s=>g.n-s.a⟩
def stI3 (g:SoG) (o:StI):Inv:=⟨StI,fun s=>(s.a<=g.n/\g.n<=s.a+s.k)/\pasF g.n o.a s.k s.h s.a=pasF g.n o.a g.n o.h 0,fun s=>⟨stE g++[(6,.int .i64 o.a),(7,.int .i64 s.a),(8,.int .i64 (s.a+2*o.a))],[edRow 0 g.n s.h]⟩,fun s=>g.n-s.a⟩
def spStable:FSpec:=mkSpecM 72 [.arg 0] soD (fun g=>[.osl 0 0,.int .i64 g.n,cmpS]) (fun g=>[edRow 0 g.n g.f]) (fun g=>g.n<=1048576) (fun _=> .tup 0 (lst [])) (fun g=>[edRow 0 g.n (srtE g)])
theorem ok_stable:SpecOK Tryz.prog spStable:=by
 refine spec_soundM (specs:=[spIns,spSym]) (all_ok (⟨ok_ins,ok_sym,trivial⟩)) (eqs:=[]) (fun _ _ h=>(List.not_mem_nil h).elim) Aff.mixed Tryz.func72 rfl (by kernel_rfl) (fun _ _=>by kernel_rfl) (fun g=>(⟨[(2,.inv (stI1 g)),(7,.nest (stI2 g) (fun o=>[(9,.inv (stI3 g o))]))],[]⟩:Ann)) true (fun g=>Nat.le_of_ble_eq_true (by kernel_rfl)) ?_
 rintro g hg
 refine vc_of (B:=let K:=Sx.Br;let A:=Sx.Ask;let z23:=(4294967296:Nat);let z17:=(g.n=g.n);let z16:=(20:Int);let z15:=(↑g.n:Int);let z14:=(2:Int);let z13:=(9223372036854775807:Int);let z12:=(-9223372036854775808:Int);let z4:=(A ((55:Go.FuncId)=(55:Go.FuncId))/\True);let z0:=(IntKind.i64=IntKind.i64);let z22:=(A z0/\A (z15=(↑z15.toNat:Int)));let z9:=(A z0/\A (z15=z15));True/\True/\True/\True/\(∃ g_1:StI,A ((stI1 g).pre g_1)/\True/\(True/\z9/\z4/\(A z0/\A (z16=z16))/\(A z0/\A ((0:Int)=(↑g_1.a:Int)))/\(A z0/\A (z16=(↑g_1.a:Int)+z16))/\True)/\(A z17/\∀ i:Nat,i<g.n->(((((True/\A z0/\A ((g.f i).x=(g_1.h i).x))/\A z0/\A ((g.f i).y=(g_1.h i).y))/\A z0/\A ((g.f i).en=(g_1.h i).en))/\A z0/\A ((g.f i).dx=(g_1.h i).dx))/\A z0/\A ((g.f i).dy=(g_1.h i).dy))/\A z0/\A ((g.f i).s=(g_1.h i).s))/\True)/\∀ g_1:StI,let z11:=(↑g_1.a:Int);let z21:=(A z0/\A (z11=(↑z11.toNat:Int)));let z7:=(A z17/\∀ i:Nat,let z18:=(g_1.h i); i<g.n->(((((True/\A z0/\A (z18.x=z18.x))/\A z0/\A (z18.y=z18.y))/\A z0/\A (z18.en=z18.en))/\A z0/\A (z18.dx=z18.dx))/\A z0/\A (z18.dy=z18.dy))/\A z0/\A (z18.s=z18.s)); (stI1 g).pre g_1->True/\True/\True/\K (decide (z11+z16<=z15)) (True/\True/\True/\True/\((True/\(True/\z21/\(A z0/\A (z11+z16=(↑(z11+z16).toNat:Int)))/\z4/\True)/\z7/\True)/\A ((z11.toNat<=(z11+z16).toNat/\(z11+z16).toNat<=g.n)/\g.n<=z23))/\True/\True/\True/\True/\A (z12<=z11+z16+z16/\z11+z16+z16<=z13)/\True/\∃ (g':StI),A ((stI1 g).pre g')/\True/\((True/\z9/\z4/\(A z0/\A (z16=z16))/\(A z0/\A (z11+z16=(↑g'.a:Int)))/\(A z0/\A (z11+z16+z16=(↑g'.a:Int)+z16))/\True)/\(A z17/\∀ i:Nat,let z2:=(Flb.insF z11.toNat g_1.h ((z11+z16).toNat-z11.toNat-(1:Nat)) i); i<g.n->(((((True/\A z0/\A (z2.x=(g'.h i).x))/\A z0/\A (z2.y=(g'.h i).y))/\A z0/\A (z2.en=(g'.h i).en))/\A z0/\A (z2.dx=(g'.h i).dx))/\A z0/\A (z2.dy=(g'.h i).dy))/\A z0/\A (z2.s=(g'.h i).s))/\True)/\A ((stI1 g).meas g'<(stI1 g).meas g_1)) (True/\True/\True/\True/\((True/\(True/\z21/\z22/\z4/\True)/\z7/\True)/\A ((z11.toNat<=z15.toNat/\z15.toNat<=g.n)/\g.n<=z23))/\(∃ g_2:StI,A ((stI2 g).pre g_2)/\True/\(True/\z9/\z4/\(A z0/\A (z16=(↑g_2.a:Int)))/\True)/\(A z17/\∀ i:Nat,let z5:=(Flb.insF z11.toNat g_1.h (z15.toNat-z11.toNat-(1:Nat)) i); i<g.n->(((((True/\A z0/\A (z5.x=(g_2.h i).x))/\A z0/\A (z5.y=(g_2.h i).y))/\A z0/\A (z5.en=(g_2.h i).en))/\A z0/\A (z5.dx=(g_2.h i).dx))/\A z0/\A (z5.dy=(g_2.h i).dy))/\A z0/\A (z5.s=(g_2.h i).s))/\True)/\∀ g_2:StI,let z26:=(stI3 g g_2);let z3:=(↑g_2.a:Int); (stI2 g).pre g_2->True/\True/\True/\K (decide (z3<z15)) (True/\A (z12<=z14*z3/\z14*z3<=z13)/\True/\True/\(∃ g_3:StI,A (z26.pre g_3)/\True/\(True/\z9/\z4/\(A z0/\A (z3=z3))/\(A z0/\A ((0:Int)=(↑g_3.a:Int)))/\(A z0/\A (z14*z3=(↑g_3.a:Int)+z14*z3))/\True)/\(A z17/\∀ i:Nat,i<g.n->(((((True/\A z0/\A ((g_2.h i).x=(g_3.h i).x))/\A z0/\A ((g_2.h i).y=(g_3.h i).y))/\A z0/\A ((g_2.h i).en=(g_3.h i).en))/\A z0/\A ((g_2.h i).dx=(g_3.h i).dx))/\A z0/\A ((g_2.h i).dy=(g_3.h i).dy))/\A z0/\A ((g_2.h i).s=(g_3.h i).s))/\True)/\∀ g_3:StI,let z8:=(A z17/\∀ i:Nat,let z19:=(g_3.h i); i<g.n->(((((True/\A z0/\A (z19.x=z19.x))/\A z0/\A (z19.y=z19.y))/\A z0/\A (z19.en=z19.en))/\A z0/\A (z19.dx=z19.dx))/\A z0/\A (z19.dy=z19.dy))/\A z0/\A (z19.s=z19.s));let z6:=(↑g_3.a:Int);let z25:=(z6+z14*z3);let z24:=(A z0/\A (z6=(↑z6.toNat:Int)));let z20:=(A z0/\A (z6+z3=(↑(z6+z3).toNat:Int))); z26.pre g_3->True/\True/\True/\K (decide (z6+z14*z3<=z15)) (True/\True/\True/\True/\A (z12<=z6+z3/\z6+z3<=z13)/\True/\True/\((True/\(True/\z24/\z20/\(A z0/\A (z6+z14*z3=(↑z25.toNat:Int)))/\z4/\True)/\z8/\True)/\A ((z6.toNat<(z6+z3).toNat/\(z6+z3).toNat<z25.toNat/\z25.toNat<=g.n)/\g.n<=z23))/\True/\True/\True/\True/\A (z12<=z14*z3/\z14*z3<=z13)/\A (z12<=z6+z14*z3+z14*z3/\z6+z14*z3+z14*z3<=z13)/\True/\∃ (g':StI),A (z26.pre g')/\True/\((True/\z9/\z4/\(A z0/\A (z3=z3))/\(A z0/\A (z6+z14*z3=(↑g'.a:Int)))/\(A z0/\A (z6+z14*z3+z14*z3=(↑g'.a:Int)+z14*z3))/\True)/\(A z17/\∀ i:Nat,let z1:=(symA g_3.h z6.toNat (z6+z3).toNat z25.toNat i); i<g.n->(((((True/\A z0/\A (z1.x=(g'.h i).x))/\A z0/\A (z1.y=(g'.h i).y))/\A z0/\A (z1.en=(g'.h i).en))/\A z0/\A (z1.dx=(g'.h i).dx))/\A z0/\A (z1.dy=(g'.h i).dy))/\A z0/\A (z1.s=(g'.h i).s))/\True)/\A (z26.meas g'<z26.meas g_3)) (True/\True/\A (z12<=z6+z3/\z6+z3<=z13)/\True/\True/\True/\True/\K (decide (z6+z3<z15)) (True/\True/\True/\True/\True/\((True/\(True/\z24/\z20/\z22/\z4/\True)/\z8/\True)/\A ((z6.toNat<(z6+z3).toNat/\(z6+z3).toNat<z15.toNat/\z15.toNat<=g.n)/\g.n<=z23))/\True/\A (z12<=z3*z14/\z3*z14<=z13)/\True/\∃ (g':StI),A ((stI2 g).pre g')/\True/\((True/\z9/\z4/\(A z0/\A (z3*z14=(↑g'.a:Int)))/\True)/\(A z17/\∀ i:Nat,let z10:=(symA g_3.h z6.toNat (z6+z3).toNat z15.toNat i); i<g.n->(((((True/\A z0/\A (z10.x=(g'.h i).x))/\A z0/\A (z10.y=(g'.h i).y))/\A z0/\A (z10.en=(g'.h i).en))/\A z0/\A (z10.dx=(g'.h i).dx))/\A z0/\A (z10.dy=(g'.h i).dy))/\A z0/\A (z10.s=(g'.h i).s))/\True)/\A ((stI2 g).meas g'<(stI2 g).meas g_2)) (True/\A (z12<=z3*z14/\z3*z14<=z13)/\True/\∃ (g':StI),A ((stI2 g).pre g')/\True/\((True/\z9/\z4/\(A z0/\A (z3*z14=(↑g'.a:Int)))/\True)/\(A z17/\∀ i:Nat,i<g.n->(((((True/\A z0/\A ((g_3.h i).x=(g'.h i).x))/\A z0/\A ((g_3.h i).y=(g'.h i).y))/\A z0/\A ((g_3.h i).en=(g'.h i).en))/\A z0/\A ((g_3.h i).dx=(g'.h i).dx))/\A z0/\A ((g_3.h i).dy=(g'.h i).dy))/\A z0/\A ((g_3.h i).s=(g'.h i).s))/\True)/\A ((stI2 g).meas g'<(stI2 g).meas g_2)))) (True/\True/\(True/\True)/\(A z17/\∀ i:Nat,i<g.n->(((((True/\A z0/\A ((g_2.h i).x=(srtE g i).x))/\A z0/\A ((g_2.h i).y=(srtE g i).y))/\A z0/\A ((g_2.h i).en=(srtE g i).en))/\A z0/\A ((g_2.h i).dx=(srtE g i).dx))/\A z0/\A ((g_2.h i).dy=(srtE g i).dy))/\A z0/\A ((g_2.h i).s=(srtE g i).s))/\True))) (by kernel_rfl) ?_
 simp only [ask_iff,br_iff,eq_self,true_and,and_true,implies_true,forall_const,decide_eq_true_eq,decide_eq_false_iff_not,ne_eq,Nat.mul_one,Nat.add_zero,Nat.zero_add,Int.toNat_natCast,and_self,List.append_assoc,false_and,and_false]
 refine ⟨⟨⟨g.f,0,g.n+1⟩,⟨⟨Nat.zero_le _,by show g.n<0+(g.n+1); omega⟩,rfl⟩,⟨rfl,rfl⟩,fun k _=>same_of rfl⟩,fun s hs=>?_⟩
 obtain ⟨h,a,k⟩:=s
 have hs:(a<=g.n/\g.n<a+k)/\insB g.n k h a=insB g.n (g.n+1) g.f 0:=hs
 obtain ⟨⟨a1,a2⟩,hq⟩:=hs
 obtain ⟨k,rfl⟩:∃ j,k=j+1:=⟨k-1,by omega⟩
 simp only []
 have e1:((a:Int)+20).toNat=a+20:=by omega
 rw [e1,show a+20-a-1=19 by omega]
 have eb:insB g.n (k+1) h a=if a+20<=g.n then insB g.n k (insF a h 19) (a+20) else insF a h (g.n-a-1):=rfl
 rw [eb] at hq
 refine ⟨fun hle=>?_,fun hgt=>?_⟩
 ·rw [if_pos (by omega)] at hq
  exact ⟨⟨by omega,⟨by omega,by omega⟩,by omega⟩,by omega,⟨insF a h 19,a+20,k⟩,⟨⟨by show a+20<=g.n; omega,by show g.n<a+20+k; omega⟩,hq⟩,⟨⟨by show (a:Int)+20=((a+20:Nat):Int); omega,by show (a:Int)+20+20=((a+20:Nat):Int)+20; omega⟩,fun t _=>same_of rfl⟩,by show g.n-(a+20)<g.n-a; omega⟩
 ·rw [if_neg (by omega)] at hq
  refine ⟨⟨⟨a1,Nat.le_refl _⟩,by omega⟩,⟨⟨insF a h (g.n-a-1),20,g.n⟩,⟨⟨Nat.le_refl _,by show 20<=2*g.n+20; omega⟩,by show g.n<=20+g.n; omega,?_⟩,rfl,fun t _=>same_of rfl⟩,fun o ho=>?_⟩
  ·show mrgF g.n g.n (insF a h (g.n-a-1)) 20=srtF g.f g.n
   rw [hq]
   rfl
  ·clear hq eb e1
   obtain ⟨h,z,k⟩:=o
   have ho:(20<=z/\z<=2*g.n+20)/\g.n<=z+k/\mrgF g.n k h z=srtE g:=ho
   obtain ⟨⟨z1,z2⟩,z3,hm⟩:=ho
   simp only []
   refine ⟨fun hlt=>?_,fun hge t _=>same_of ?_⟩
   ·obtain ⟨k,rfl⟩:∃ j,k=j+1:=⟨k-1,by omega⟩
    have em:mrgF g.n (k+1) h z=if z<g.n then mrgF g.n k (pasF g.n z g.n h 0) (2*z) else h:=rfl
    rw [em,if_pos (by omega)] at hm
    have hnext:∀ h2,h2=pasF g.n z g.n h 0->(stI2 g).pre ⟨h2,2*z,k⟩:=fun h2 e=>⟨⟨by show 20<=2*z; omega,by show 2*z<=2*g.n+20; omega⟩,by show g.n<=2*z+k; omega,by rw [e]; exact hm⟩
    have hmeas:g.n-2*z<g.n-z:=by omega
    refine ⟨by omega,⟨⟨h,0,g.n⟩,⟨⟨Nat.zero_le _,by show g.n<=0+g.n; omega⟩,rfl⟩,⟨rfl,by show 2*(z:Int)=((0:Nat):Int)+2*z; omega⟩,fun t _=>same_of rfl⟩,fun s hs=>?_⟩
    obtain ⟨h',a,l⟩:=s
    have hs:(a<=g.n/\g.n<=a+l)/\pasF g.n z l h' a=pasF g.n z g.n h 0:=hs
    obtain ⟨⟨b1,b2⟩,hp⟩:=hs
    simp only []
    have e1:((a:Int)+(z:Int)).toNat=a+z:=by omega
    have e2:((a:Int)+2*(z:Int)).toNat=a+2*z:=by omega
    rw [e1,e2]
    have ep:∀ l,pasF g.n z (l+1) h' a=if a+2*z<=g.n then pasF g.n z l (symA h' a (a+z) (a+2*z)) (a+2*z) else if a+z<g.n then symA h' a (a+z) g.n else h':=fun _=>rfl
    refine ⟨fun hle=>?_,fun hgt=>⟨by omega,fun c=>?_,fun c=>?_⟩⟩
    ·obtain ⟨l,rfl⟩:∃ j,l=j+1:=⟨l-1,by omega⟩
     rw [ep,if_pos (by omega)] at hp
     exact ⟨by omega,⟨⟨by omega,by omega⟩,⟨by omega,by omega,by omega⟩,by omega⟩,by omega,by omega,⟨symA h' a (a+z) (a+2*z),a+2*z,l⟩,⟨⟨by show a+2*z<=g.n; omega,by show g.n<=a+2*z+l; omega⟩,hp⟩,⟨⟨by show _=((a+2*z:Nat):Int); omega,by show _=((a+2*z:Nat):Int)+2*z; omega⟩,fun t _=>same_of rfl⟩,by show g.n-(a+2*z)<g.n-a; omega⟩
    ·obtain ⟨l,rfl⟩:∃ j,l=j+1:=⟨l-1,by omega⟩
     rw [ep,if_neg (by omega),if_pos (by omega)] at hp
     exact ⟨⟨by omega,⟨by omega,by omega,Nat.le_refl _⟩,by omega⟩,by omega,⟨symA h' a (a+z) g.n,2*z,k⟩,hnext _ hp,⟨by show (z:Int)*2=((2*z:Nat):Int); omega,fun t _=>same_of rfl⟩,hmeas⟩
    ·have hp2:h'=pasF g.n z g.n h 0:=by
      cases l with
      | zero=>exact hp
      | succ l=>
       rw [ep,if_neg (by omega),if_neg (by omega)] at hp
       exact hp
     exact ⟨by omega,⟨h',2*z,k⟩,hnext _ hp2,⟨by show (z:Int)*2=((2*z:Nat):Int); omega,fun t _=>same_of rfl⟩,hmeas⟩
   ·rw [<-hm]
    cases k with
    | zero=>rfl
    | succ k=>
     show h t=(if z<g.n then _ else h) t
     rw [if_neg (by omega)]
def spSortE:FSpec:=mkSpecM 54 [.arg 0] soD (fun _=>[.osl 0 0,cmpS]) (fun g=>[edRow 0 g.n g.f]) (fun g=>g.n<=1048576) (fun _=> .tup 0 (lst [])) (fun g=>[edRow 0 g.n (srtE g)])
theorem ok_sortE:SpecOK Tryz.prog spSortE:=by
 refine spec_soundM (specs:=[spStable]) (all_ok (⟨ok_stable,trivial⟩)) (eqs:=[]) (fun _ _ h=>(List.not_mem_nil h).elim) Aff.mixed Tryz.func54 rfl (by kernel_rfl) (fun _ _=>by kernel_rfl) (fun g=>A0) true (fun g=>Nat.le_of_ble_eq_true (by kernel_rfl)) ?_
 rintro g hg
 refine vc_of (B:=let A:=Sx.Ask;let z0:=(IntKind.i64=IntKind.i64);True/\True/\True/\True/\((True/\(True/\(A z0/\A ((↑g.n:Int)=(↑g.n:Int)))/\(A ((55:Go.FuncId)=(55:Go.FuncId))/\True)/\True)/\(A (g.n=g.n)/\∀ i:Nat,i<g.n->(((((True/\A z0/\A ((g.f i).x=(g.f i).x))/\A z0/\A ((g.f i).y=(g.f i).y))/\A z0/\A ((g.f i).en=(g.f i).en))/\A z0/\A ((g.f i).dx=(g.f i).dx))/\A z0/\A ((g.f i).dy=(g.f i).dy))/\A z0/\A ((g.f i).s=(g.f i).s))/\True)/\A (g.n<=(1048576:Nat)))/\True/\True/\(True/\True)/\(A (g.n=g.n)/\∀ i:Nat,let z1:=(srtE g i); i<g.n->(((((True/\A z0/\A (z1.x=z1.x))/\A z0/\A (z1.y=z1.y))/\A z0/\A (z1.en=z1.en))/\A z0/\A (z1.dx=z1.dx))/\A z0/\A (z1.dy=z1.dy))/\A z0/\A (z1.s=z1.s))/\True) (by kernel_rfl) ?_
 simp only [ask_iff,br_iff,eq_self,true_and,and_true,implies_true,forall_const,decide_eq_true_eq,decide_eq_false_iff_not,ne_eq,Nat.mul_one,Nat.add_zero,Nat.zero_add,Int.toNat_natCast,and_self,List.append_assoc,false_and,and_false]
 exact hg
theorem sum_srt (g:SoG) (φ:Ed->Int):sumN (fun k=>φ (srtE g k)) g.n=sumN (fun k=>φ (g.f k)) g.n:=sum_srtF φ g.f g.n
theorem all_srt {P:Ed->Prop}(g:SoG) (h:∀ k,k<g.n->P (g.f k)):∀ k,k<g.n->P (srtE g k):=all_srtF h
theorem srt_sorted (g:SoG) {p q:Nat}(h:p<q) (hq:q<g.n):(srtE g p).y<=(srtE g q).y:=srtF_srt g.f g.n p q (Nat.zero_le _) h hq
end Go.Proofs.YtmhofgchidojoaaGreat.Flc
set_option linter.unusedSimpArgs false
set_option linter.unusedVariables false
namespace Go.Proofs.YtmhofgchidojoaaGreat.Rgl
open Rga
def inR (r:Rn) (y x:Int):Bool:=decide (r.y=y/\r.x0<=x/\x<r.x1)
def mem (L:List Rn) (y x:Int):Bool:=L.any (fun r=>inR r y x)
theorem inR_iff (r:Rn) (y x:Int):inR r y x=true<->r.y=y/\r.x0<=x/\x<r.x1:=decide_eq_true_iff
theorem mem_iff (L:List Rn) (y x:Int):mem L y x=true<->∃ r∈L,r.y=y/\r.x0<=x/\x<r.x1:=by
 unfold mem
 rw [List.any_eq_true]
 exact ⟨fun ⟨r,h,e⟩=>⟨r,h,(inR_iff _ _ _).1 e⟩,fun ⟨r,h,e⟩=>⟨r,h,(inR_iff _ _ _).2 e⟩⟩
theorem mem_cons (r:Rn) (L:List Rn) (y x:Int):mem (r::L) y x=(inR r y x||mem L y x):=rfl
theorem mem_app (L M:List Rn) (y x:Int):mem (L++M) y x=(mem L y x||mem M y x):=by
 unfold mem; rw [List.any_append]
theorem mem_one (r:Rn) (y x:Int):mem [r] y x=inR r y x:=by
 unfold mem; simp
theorem vld_nil:vld []:=⟨fun _ h=>(List.not_mem_nil h).elim,List.Pairwise.nil⟩
theorem vld_cons {r:Rn}{L:List Rn}:vld (r::L)<->okR r/\(∀ s∈L,ltR r s)/\vld L:=by
 unfold vld
 rw [List.pairwise_cons]
 constructor
 ·rintro ⟨h1,h2,h3⟩
  exact ⟨h1 r (List.mem_cons_self ..),h2,fun s hs=>h1 s (List.mem_cons_of_mem _ hs),h3⟩
 ·rintro ⟨h1,h2,h3,h4⟩
  refine ⟨fun s hs=>?_,h2,h4⟩
  rcases List.mem_cons.1 hs with rfl | hs
  ·exact h1
  ·exact h3 s hs
theorem vld_snoc {r:Rn}{L:List Rn}:vld (L++[r])<->vld L/\okR r/\∀ s∈L,ltR s r:=by
 unfold vld
 rw [List.pairwise_append]
 constructor
 ·rintro ⟨h1,h2,_,h3⟩
  exact ⟨⟨fun s hs=>h1 s (List.mem_append_left _ hs),h2⟩,h1 r (List.mem_append_right _ (List.mem_singleton.2 rfl)),fun s hs=>h3 s hs r (List.mem_singleton.2 rfl)⟩
 ·rintro ⟨⟨h1,h2⟩,h3,h4⟩
  refine ⟨fun s hs=>?_,h2,List.pairwise_singleton _ _,fun s hs t ht=>?_⟩
  ·rcases List.mem_append.1 hs with hs | hs
   ·exact h1 s hs
   ·rw [List.mem_singleton.1 hs]; exact h3
  ·rw [List.mem_singleton.1 ht]; exact h4 s hs
theorem beyond {r:Rn}{L:List Rn}(h:vld (r::L)) {y x:Int}(hm:mem L y x=true):r.y<y\/(r.y=y/\r.x1<x):=by
 obtain ⟨s,hs,h1,h2,h3⟩:=(mem_iff _ _ _).1 hm
 have:=(vld_cons.1 h).2.1 s hs
 unfold ltR at this
 omega
theorem from_first {r:Rn}{L:List Rn}(h:vld (r::L)) {y x:Int}(hm:mem (r::L) y x=true):r.y<y\/(r.y=y/\r.x0<=x):=by
 rw [mem_cons,Bool.or_eq_true] at hm
 rcases hm with hm | hm
 ·have:=(inR_iff _ _ _).1 hm; omega
 ·have:=beyond h hm
  have:=(vld_cons.1 h).1.2
  omega
theorem first_in {r:Rn}{L:List Rn}(h:vld (r::L)):mem (r::L) r.y r.x0=true:=by
 rw [mem_cons,(inR_iff _ _ _).2 ⟨rfl,Int.le_refl _,(vld_cons.1 h).1.2⟩]; rfl
theorem tail_mem {r:Rn}{L:List Rn}(h:vld (r::L)) (y x:Int):mem L y x=(mem (r::L) y x&&!inR r y x):=by
 rw [mem_cons]
 by_cases hr:inR r y x=true
 ·rw [hr]
  have:mem L y x≠true:=fun hm=>by
   have:=beyond h hm
   have:=(inR_iff _ _ _).1 hr
   omega
  simpa using this
 ·rw [Bool.not_eq_true] at hr
  rw [hr]; simp
theorem noend {r:Rn}{L:List Rn}(h:vld (r::L)):¬ mem (r::L) r.y r.x1=true:=by
 rw [mem_cons,Bool.or_eq_true]
 rintro (hm | hm)
 ·have:=(inR_iff _ _ _).1 hm; omega
 ·have:=beyond h hm; omega
theorem uniq:∀ (L M:List Rn),vld L->vld M->(∀ y x,mem L y x=mem M y x)->L=M:=by
 intro L
 induction L with
 | nil=>
  intro M _ hM h
  cases M with
  | nil=>rfl
  | cons s M=>
   have:=first_in hM
   rw [<-h] at this
   cases this
 | cons r L ih=>
  intro M hL hM h
  cases M with
  | nil=>
   have:=first_in hL
   rw [h] at this
   cases this
  | cons s M=>
   have h1:=from_first hM (by rw [<-h]; exact first_in hL)
   have h2:=from_first hL (by rw [h]; exact first_in hM)
   have ey:r.y=s.y:=by omega
   have ex:r.x0=s.x0:=by omega
   have o1:=(vld_cons.1 hL).1.2
   have o2:=(vld_cons.1 hM).1.2
   have e1:r.x1=s.x1:=by
    rcases Int.lt_trichotomy r.x1 s.x1 with hlt | he | hlt
    ·exact absurd (by rw [h,ey,mem_cons,(inR_iff _ _ _).2 ⟨rfl,by omega,hlt⟩]; rfl) (noend hL)
    ·exact he
    ·exact absurd (by rw [<-h,<-ey,mem_cons,(inR_iff _ _ _).2 ⟨rfl,by omega,hlt⟩]; rfl) (noend hM)
   have e:r=s:=by cases r; cases s; simp only at ey ex e1; subst ey ex e1; rfl
   subst e
   rw [ih M (vld_cons.1 hL).2.2 (vld_cons.1 hM).2.2 (fun y x=>by rw [tail_mem hL,tail_mem hM,h])]
noncomputable def ofSet (χ:Int->Int->Bool):List Rn:=open Classical in if h:∃ L,vld L/\∀ y x,mem L y x=χ y x then h.choose else []
theorem ofSet_vld (χ:Int->Int->Bool):vld (ofSet χ):=by
 unfold ofSet
 split
 ·next h=>exact h.choose_spec.1
 ·exact vld_nil
theorem ofSet_eq {χ:Int->Int->Bool}{L:List Rn}(h1:vld L) (h2:∀ y x,mem L y x=χ y x):ofSet χ=L:=by
 unfold ofSet
 have h:∃ L,vld L/\∀ y x,mem L y x=χ y x:=⟨L,h1,h2⟩
 rw [dif_pos h]
 exact uniq _ _ h.choose_spec.1 h1 (fun y x=>by rw [h.choose_spec.2,h2])
def key (r:Rn):Int:=r.y*16385+r.x0
theorem vld_len':∀ (L:List Rn) (r:Rn),vld (r::L)->((r::L).length:Int)<=134226112-key r:=by
 intro L
 induction L with
 | nil=>
  intro r h
  obtain ⟨⟨⟨h1,h2⟩,⟨h3,h4⟩,h5,h6⟩,h7⟩:=(vld_cons.1 h).1
  show (1:Int)<=_
  unfold key; omega
 | cons s L ih=>
  intro r h
  have h0:=ih s (vld_cons.1 h).2.2
  have hl:=(vld_cons.1 h).2.1 s (List.mem_cons_self ..)
  obtain ⟨⟨⟨h1,h2⟩,⟨h3,h4⟩,h5,h6⟩,h7⟩:=(vld_cons.1 h).1
  obtain ⟨⟨⟨k1,k2⟩,⟨k3,k4⟩,k5,k6⟩,k7⟩:=(vld_cons.1 (vld_cons.1 h).2.2).1
  have e:((r::s::L).length:Int)=((s::L).length:Int)+1:=by simp
  rw [e]
  unfold key ltR at *
  omega
theorem vld_len {L:List Rn}(h:vld L):L.length<=300000000:=by
 cases L with
 | nil=>exact Nat.zero_le _
 | cons r L=>
  have:=vld_len' L r h
  obtain ⟨⟨⟨h1,h2⟩,⟨h3,h4⟩,h5,h6⟩,h7⟩:=(vld_cons.1 h).1
  unfold key at this
  omega
theorem last_cases (L:List Rn):L=[]\/∃ P s,L=P++[s]:=by
 rcases List.eq_nil_or_concat L with h | ⟨P,s,h⟩
 ·exact .inl h
 ·exact .inr ⟨P,s,by rw [h,List.concat_eq_append]⟩
theorem add_snoc (P:List Rn) (s r:Rn):addR (P++[s]) r=if r.x0<r.x1 then (if s.y=r.y/\r.x0<=s.x1 then P++[⟨s.y,s.x0,if r.x1>s.x1 then r.x1 else s.x1⟩] else P++[s]++[r]) else P++[s]:=by
 unfold addR
 simp
theorem add_nil (r:Rn):addR [] r=if r.x0<r.x1 then [r] else []:=rfl
def aft (L:List Rn) (y x:Int):Prop:=∀ s,L.getLast?=some s->s.y<y\/(s.y=y/\s.x0<=x)
def aftE (L:List Rn) (y x:Int):Prop:=∀ s,L.getLast?=some s->s.y<y\/(s.y=y/\s.x1<=x)
theorem aft_snoc {P:List Rn}{s:Rn}{y x:Int}:aft (P++[s]) y x<->s.y<y\/(s.y=y/\s.x0<=x):=by
 unfold aft; simp
theorem aftE_snoc {P:List Rn}{s:Rn}{y x:Int}:aftE (P++[s]) y x<->s.y<y\/(s.y=y/\s.x1<=x):=by
 unfold aftE; simp
theorem aft_nil {y x:Int}:aft [] y x:=fun s h=>by cases h
theorem aftE_nil {y x:Int}:aftE [] y x:=fun s h=>by cases h
theorem aft_of {L:List Rn}(hL:vld L) {y x:Int}(h:aftE L y x):aft L y x:=by
 rcases last_cases L with rfl | ⟨P,s,rfl⟩
 ·exact aft_nil
 ·rw [aftE_snoc] at h
  rw [aft_snoc]
  have:=(vld_snoc.1 hL).2.1.2
  omega
theorem add_ok {L:List Rn}(hL:vld L) {r:Rn}(hr:r.x0<r.x1->okR r) (h:aft L r.y r.x0) :
  vld (addR L r)/\(∀ y x,mem (addR L r) y x=(mem L y x||inR r y x))/\(∀ y x,(r.y<y\/(r.y=y/\r.x0<=x))->aft (addR L r) y x):=by
 by_cases hx:r.x0<r.x1
 ·have hr:=hr hx
  rcases last_cases L with rfl | ⟨P,s,rfl⟩
  ·rw [add_nil,if_pos hx]
   refine ⟨vld_cons.2 ⟨hr,fun _ h=>(List.not_mem_nil h).elim,vld_nil⟩,fun y x=>?_,fun y x hy=>?_⟩
   ·rw [mem_one]; rfl
   ·exact (aft_snoc (P:=[])).2 hy
  ·rw [add_snoc,if_pos hx]
   obtain ⟨hP,hs,hPs⟩:=vld_snoc.1 hL
   rw [aft_snoc] at h
   obtain ⟨⟨⟨h1,h2⟩,⟨h3,h4⟩,h5,h6⟩,h7⟩:=hr
   obtain ⟨⟨⟨k1,k2⟩,⟨k3,k4⟩,k5,k6⟩,k7⟩:=hs
   by_cases hm:s.y=r.y/\r.x0<=s.x1
   ·rw [if_pos hm]
    refine ⟨vld_snoc.2 ⟨hP,⟨⟨⟨k1,k2⟩,⟨k3,k4⟩,?_⟩,?_⟩,fun p hp=>hPs p hp⟩,fun y x=>?_,fun y x hy=>?_⟩
    ·show -8192<=(if r.x1>s.x1 then r.x1 else s.x1)/\(if r.x1>s.x1 then r.x1 else s.x1)<=8192
     split<;>omega
    ·show s.x0<(if r.x1>s.x1 then r.x1 else s.x1)
     split<;>omega
    ·rw [mem_app,mem_app,mem_one,mem_one,Bool.or_assoc]
     congr 1
     rw [Bool.eq_iff_iff,Bool.or_eq_true,inR_iff,inR_iff,inR_iff]
     show s.y=y/\s.x0<=x/\x<(if r.x1>s.x1 then r.x1 else s.x1)<->_
     split<;>omega
    ·rw [aft_snoc]
     show s.y<y\/(s.y=y/\s.x0<=x)
     omega
   ·rw [if_neg hm]
    refine ⟨vld_snoc.2 ⟨hL,⟨⟨⟨h1,h2⟩,⟨h3,h4⟩,h5,h6⟩,h7⟩,fun p hp=>?_⟩,fun y x=>?_,fun y x hy=>aft_snoc.2 hy⟩
    ·have hsr:ltR s r:=by unfold ltR; omega
     rcases List.mem_append.1 hp with hp | hp
     ·have:=hPs p hp
      unfold ltR at *
      omega
     ·rw [List.mem_singleton.1 hp]; exact hsr
    ·rw [mem_app _ [r],mem_one]
 ·have e:addR L r=L:=if_neg hx
  rw [e]
  refine ⟨hL,fun y x=>?_,fun y x hy s hs=>?_⟩
  ·have:inR r y x=false:=by
    rw [<-Bool.not_eq_true,inR_iff]; omega
   rw [this,Bool.or_false]
  ·have:=h s hs
   omega
theorem add_end {L:List Rn}{r:Rn}(h:aftE L r.y r.x0) (hx:r.x0<=r.x1):aftE (addR L r) r.y r.x1:=by
 by_cases hx':r.x0<r.x1
 ·rcases last_cases L with rfl | ⟨P,s,rfl⟩
  ·rw [add_nil,if_pos hx']
   exact (aftE_snoc (P:=[])).2 (.inr ⟨rfl,Int.le_refl _⟩)
  ·rw [add_snoc,if_pos hx']
   rw [aftE_snoc] at h
   split
   ·next hm=>
    rw [aftE_snoc]
    show s.y<r.y\/(s.y=r.y/\(if r.x1>s.x1 then r.x1 else s.x1)<=r.x1)
    split<;>omega
   ·exact aftE_snoc.2 (.inr ⟨rfl,Int.le_refl _⟩)
 ·rw [show addR L r=L from if_neg hx']
  intro s hs
  have:=h s hs
  omega
end Go.Proofs.YtmhofgchidojoaaGreat.Rgl
set_option linter.unusedSimpArgs false
set_option linter.unusedVariables false
namespace Go.Proofs.YtmhofgchidojoaaGreat.Rgm
open Rga Rgl
def eY (f:Nat->Rn) (k:Nat):Int:=(f (k / 2)).y
abbrev le2 (y x y' x':Int):Prop:=y<y'\/(y=y'/\x<=x')
abbrev lt2 (y x y' x':Int):Prop:=y<y'\/(y=y'/\x<x')
theorem le2_trans {a b c d e f:Int}(h:le2 a b c d) (h':le2 c d e f):le2 a b e f:=by omega
theorem lt2_le {a b c d:Int}(h:lt2 a b c d):le2 a b c d:=by omega
def odd (i:Nat):Bool:=decide (i % 2=1)
theorem ok_of {g:Rg}(h:vld g.L) {i:Nat}(hi:i<g.n):okR (g.f i):=h.1 _ (List.mem_map.2 ⟨i,List.mem_range.2 hi,rfl⟩)
theorem lt_of {g:Rg}(h:vld g.L) {i j:Nat}(hij:i<j) (hj:j<g.n):ltR (g.f i) (g.f j):=by
 have:=List.pairwise_iff_getElem.1 h.2 i j (by rw [Rg.len]; omega) (by rw [Rg.len]; exact hj) hij
 simpa [Rg.L] using this
theorem mem_g {g:Rg}{y x:Int}:mem g.L y x=true<->∃ i,i<g.n/\(g.f i).y=y/\(g.f i).x0<=x/\x<(g.f i).x1:=by
 rw [mem_iff]
 unfold Rg.L
 constructor
 ·rintro ⟨r,hr,h⟩
  obtain ⟨i,hi,rfl⟩:=List.mem_map.1 hr
  exact ⟨i,List.mem_range.1 hi,h⟩
 ·rintro ⟨i,hi,h⟩
  exact ⟨_,List.mem_map.2 ⟨i,List.mem_range.2 hi,rfl⟩,h⟩
theorem edge_ok {g:Rg}(h:vld g.L) {k:Nat}(hk:k<2*g.n):(-8192<=eY g.f k/\eY g.f k<8192)/\ -8192<=eX g.f k/\eX g.f k<=8192:=by
 obtain ⟨⟨⟨h1,h2⟩,⟨h3,h4⟩,h5,h6⟩,h7⟩:=ok_of h (show k / 2<g.n by omega)
 unfold eY eX
 split<;>omega
theorem edge_lt {g:Rg}(h:vld g.L) {k l:Nat}(hkl:k<l) (hl:l<2*g.n):lt2 (eY g.f k) (eX g.f k) (eY g.f l) (eX g.f l):=by
 have ok:=(ok_of h (show k / 2<g.n by omega)).2
 have ol:=(ok_of h (show l / 2<g.n by omega)).2
 unfold eY eX
 by_cases e:k / 2=l / 2
 ·rw [if_pos (by omega),if_neg (by omega),<-e]
  exact .inr ⟨rfl,ok⟩
 ·have hlt:=lt_of h (show k / 2<l / 2 by omega) (by omega)
  unfold ltR at hlt
  split<;>split<;>omega
theorem edge_le {g:Rg}(h:vld g.L) {k l:Nat}(hkl:k<=l) (hl:l<2*g.n):le2 (eY g.f k) (eX g.f k) (eY g.f l) (eX g.f l):=by
 rcases Nat.lt_or_eq_of_le hkl with hlt | rfl
 ·have:=edge_lt h hlt hl
  omega
 ·exact .inr ⟨rfl,Int.le_refl _⟩
theorem parity {g:Rg}(h:vld g.L) {i:Nat}(hi:i<=2*g.n) {y x:Int}(h1:0<i->le2 (eY g.f (i-1)) (eX g.f (i-1)) y x) (h2:i<2*g.n->lt2 y x (eY g.f i) (eX g.f i)):mem g.L y x=odd i:=by
 unfold odd
 by_cases ho:i % 2=1
 ·rw [decide_eq_true ho,mem_g]
  refine ⟨i / 2,by omega,?_⟩
  have a1:=h1 (by omega)
  have a2:=h2 (by omega)
  unfold eY eX at a1 a2
  rw [if_pos (show (i-1) % 2=0 by omega),show (i-1) / 2=i / 2 by omega] at a1
  rw [if_neg (show ¬ i % 2=0 by omega)] at a2
  omega
 ·rw [decide_eq_false ho,<-Bool.not_eq_true,mem_g]
  rintro ⟨p,hp,e,a,b⟩
  by_cases hpi:2*p<i
  ·have hle:=edge_le h (show 2*p+1<=i-1 by omega) (by omega)
   have a1:=h1 (by omega)
   have e1:eY g.f (2*p+1)=(g.f p).y:=by unfold eY; rw [show (2*p+1) / 2=p by omega]
   have e2:eX g.f (2*p+1)=(g.f p).x1:=by unfold eX; rw [if_neg (by omega),show (2*p+1) / 2=p by omega]
   rw [e1,e2] at hle
   omega
  ·have hle:=edge_le h (show i<=2*p by omega) (by omega)
   have a2:=h2 (by omega)
   have e1:eY g.f (2*p)=(g.f p).y:=by unfold eY; rw [show 2*p / 2=p by omega]
   have e2:eX g.f (2*p)=(g.f p).x0:=by unfold eX; rw [if_pos (by omega),show 2*p / 2=p by omega]
   rw [e1,e2] at hle
   omega
theorem same_row (f:Nat->Rn) {i:Nat}(ho:i % 2=1):eY f (i-1)=eY f i:=by
 unfold eY; rw [show (i-1) / 2=i / 2 by omega]
theorem sweep {a b:Rg}(ha:vld a.L) (hb:vld b.L) {K:Bool->Bool->Bool}(hK:K false false=false) {i j:Nat}(hi:i<=2*a.n) (hj:j<=2*b.n) {fy fx ty tx:Int}
  (c1:0<i->le2 (eY a.f (i-1)) (eX a.f (i-1)) fy fx) (c2:0<j->le2 (eY b.f (j-1)) (eX b.f (j-1)) fy fx)
  (u1:i<2*a.n->le2 ty tx (eY a.f i) (eX a.f i)) (u2:j<2*b.n->le2 ty tx (eY b.f j) (eX b.f j))
  (hft:0<i+j->le2 fy fx ty tx) (fok:(-8192<=fy/\fy<8192)/\ -8192<=fx/\fx<=8192) (tok:(-8192<=ty/\ty<8192)/\ -8192<=tx/\tx<=8192)
  {L:List Rn}(hL:vld L) (hE:0<i+j->aftE L fy fx) (h0:i+j=0->L=[])
  (hm:0<i+j->∀ y x,mem L y x=(decide (lt2 y x fy fx)&&K (mem a.L y x) (mem b.L y x)))
  {L':List Rn}(hL':L'=if K (odd i) (odd j) then addR L ⟨fy,fx,tx⟩ else L) :
  vld L'/\aftE L' ty tx/\∀ y x,mem L' y x=(decide (lt2 y x ty tx)&&K (mem a.L y x) (mem b.L y x)):=by
 have par:∀ y x,(0<i+j->le2 fy fx y x)->lt2 y x ty tx->K (mem a.L y x) (mem b.L y x)=K (odd i) (odd j):=fun y x h1 h2=>by
  rw [parity ha hi (fun h=>by have:=c1 h; have:=h1 (by omega); omega) (fun h=>by have:=u1 h; omega),parity hb hj (fun h=>by have:=c2 h; have:=h1 (by omega); omega) (fun h=>by have:=u2 h; omega)]
 by_cases hk:K (odd i) (odd j)=true
 ·rw [if_pos hk] at hL'
  have hpos:0<i+j:=by
   rcases Nat.eq_zero_or_pos (i+j) with h | h
   ·rw [show i=0 by omega,show j=0 by omega] at hk
    exact absurd (hk.symm.trans hK) (by decide)
   ·exact h
  have hy:fy=ty:=by
   have hft:=hft hpos
   by_cases oi:i % 2=1
   ·have:=same_row a.f oi
    have:=c1 (by omega)
    have:=u1 (by omega)
    omega
   ·by_cases oj:j % 2=1
    ·have:=same_row b.f oj
     have:=c2 (by omega)
     have:=u2 (by omega)
     omega
    ·rw [show odd i=false from decide_eq_false oi,show odd j=false from decide_eq_false oj] at hk
     exact absurd (hk.symm.trans hK) (by decide)
  have hft:=hft hpos
  have hE:=hE hpos
  have hm:=hm hpos
  subst hy
  obtain ⟨v,m,_⟩:=add_ok hL (r:=⟨fy,fx,tx⟩) (fun h=>⟨⟨fok.1,⟨fok.2.1,by have:fx<tx:=h; show fx<=8192; omega⟩,tok.2⟩,h⟩) (aft_of hL hE)
  have en:=add_end (r:=⟨fy,fx,tx⟩) hE (by show fx<=tx; omega)
  rw [hL']
  refine ⟨v,en,fun y x=>?_⟩
  rw [m,hm]
  have hr:inR ⟨fy,fx,tx⟩ y x=decide (fy=y/\fx<=x/\x<tx):=rfl
  rw [hr]
  by_cases d1:lt2 y x fy fx
  ·rw [decide_eq_true d1,decide_eq_true (show lt2 y x fy tx by omega),decide_eq_false (by omega),Bool.or_false]
  ·rw [decide_eq_false d1,Bool.false_and,Bool.false_or]
   by_cases d2:lt2 y x fy tx
   ·rw [decide_eq_true d2,decide_eq_true (by omega),par y x (fun _=>by omega) d2,hk]; rfl
   ·rw [decide_eq_false d2,decide_eq_false (by omega)]; rfl
 ·rw [if_neg hk] at hL'
  subst hL'
  rw [Bool.not_eq_true] at hk
  rcases Nat.eq_zero_or_pos (i+j) with h | h
  ·rw [h0 h]
   refine ⟨vld_nil,aftE_nil,fun y x=>?_⟩
   by_cases d:lt2 y x ty tx
   ·rw [par y x (fun h'=>by omega) d,hk,Bool.and_false]; rfl
   ·rw [decide_eq_false d]; rfl
  ·have hft:=hft h
   refine ⟨hL,fun s hs=>by have:=hE h s hs; omega,fun y x=>?_⟩
   rw [hm h]
   by_cases d1:lt2 y x fy fx
   ·rw [decide_eq_true d1,decide_eq_true (show lt2 y x ty tx by omega)]
   ·rw [decide_eq_false d1,Bool.false_and]
    by_cases d2:lt2 y x ty tx
    ·rw [par y x (fun _=>by omega) d2,hk,Bool.and_false]
    ·rw [decide_eq_false d2,Bool.false_and]
theorem swept {a b:Rg}(ha:vld a.L) (hb:vld b.L) {K:Bool->Bool->Bool}(hK:K false false=false) {fy fx:Int}
  (c1:0<2*a.n->le2 (eY a.f (2*a.n-1)) (eX a.f (2*a.n-1)) fy fx) (c2:0<2*b.n->le2 (eY b.f (2*b.n-1)) (eX b.f (2*b.n-1)) fy fx)
  {L:List Rn}(hL:vld L) (h0:2*a.n+2*b.n=0->L=[])
  (hm:0<2*a.n+2*b.n->∀ y x,mem L y x=(decide (lt2 y x fy fx)&&K (mem a.L y x) (mem b.L y x))) :
  ofSet (fun y x=>K (mem a.L y x) (mem b.L y x))=L:=by
 refine ofSet_eq hL (fun y x=>?_)
 have e0:∀ n:Nat,odd (2*n)=false:=fun n=>decide_eq_false (by omega)
 have par:(0<2*a.n+2*b.n->le2 fy fx y x)->K (mem a.L y x) (mem b.L y x)=false:=fun h1=>by
  rw [parity ha (Nat.le_refl _) (fun h=>by have:=c1 h; have:=h1 (by omega); omega) (fun h=>absurd h (Nat.lt_irrefl _)),parity hb (Nat.le_refl _) (fun h=>by have:=c2 h; have:=h1 (by omega); omega) (fun h=>absurd h (Nat.lt_irrefl _)),e0,e0,hK]
 rcases Nat.eq_zero_or_pos (2*a.n+2*b.n) with h | h
 ·rw [h0 h,par (fun h'=>by omega)]; rfl
 ·rw [hm h]
  by_cases d:lt2 y x fy fx
  ·rw [decide_eq_true d,Bool.true_and]
  ·rw [decide_eq_false d,par (fun _=>by omega)]; rfl
theorem or_le (y x y' x':Int):orI (y-y') (x-x')<=0<->le2 y x y' x':=by
 unfold orI
 split<;>omega
structure CbG where
 a:Rg
 b:Rg
structure CsG where
 i:Nat
 j:Nat
 from':Rga.Eg
 L:List Rn
structure CbP (g:CbG) (K:Bool->Bool->Bool) (s:CsG):Prop where
 hi:s.i<=2*g.a.n
 hj:s.j<=2*g.b.n
 c1:0<s.i->le2 (eY g.a.f (s.i-1)) (eX g.a.f (s.i-1)) s.from'.y s.from'.x
 c2:0<s.j->le2 (eY g.b.f (s.j-1)) (eX g.b.f (s.j-1)) s.from'.y s.from'.x
 u1:0<s.i+s.j->s.i<2*g.a.n->le2 s.from'.y s.from'.x (eY g.a.f s.i) (eX g.a.f s.i)
 u2:0<s.i+s.j->s.j<2*g.b.n->le2 s.from'.y s.from'.x (eY g.b.f s.j) (eX g.b.f s.j)
 fok:(-8192<=s.from'.y/\s.from'.y<8192)/\ -8192<=s.from'.x/\s.from'.x<=8192
 hL:vld s.L
 hE:0<s.i+s.j->aftE s.L s.from'.y s.from'.x
 h0:s.i+s.j=0->s.L=[]
 hm:0<s.i+s.j->∀ y x,mem s.L y x=(decide (lt2 y x s.from'.y s.from'.x)&&K (mem g.a.L y x) (mem g.b.L y x))
theorem cb_start (g:CbG) (K:Bool->Bool->Bool):CbP g K ⟨0,0,⟨0,0,0⟩,[]⟩ where
 hi:=Nat.zero_le _
 hj:=Nat.zero_le _
 c1:=fun h=>absurd h (Nat.lt_irrefl _)
 c2:=fun h=>absurd h (Nat.lt_irrefl _)
 u1:=fun h=>absurd h (Nat.lt_irrefl _)
 u2:=fun h=>absurd h (Nat.lt_irrefl _)
 fok:=by decide
 hL:=vld_nil
 hE:=fun h=>absurd h (Nat.lt_irrefl _)
 h0:=fun _=>rfl
 hm:=fun h=>absurd h (Nat.lt_irrefl _)
def nxL (K:Bool->Bool->Bool) (s:CsG) (tx:Int):List Rn:=if K (odd s.i) (odd s.j) then addR s.L ⟨s.from'.y,s.from'.x,tx⟩ else s.L
theorem cb_stepA {g:CbG}{K:Bool->Bool->Bool}{s:CsG}(ha:vld g.a.L) (hb:vld g.b.L) (hK:K false false=false) (h:CbP g K s) (hi:s.i<2*g.a.n) (hle:s.j<2*g.b.n->le2 (eY g.a.f s.i) (eX g.a.f s.i) (eY g.b.f s.j) (eX g.b.f s.j)) :
  CbP g K ⟨s.i+1,s.j,eAt g.a.f 0 s.i,nxL K s (eX g.a.f s.i)⟩:=by
 have ho:=edge_ok ha hi
 obtain ⟨v,e,m⟩:=sweep ha hb hK h.hi h.hj h.c1 h.c2 (fun _=> .inr ⟨rfl,Int.le_refl _⟩) hle (fun h'=>h.u1 h' hi) h.fok ho h.hL h.hE h.h0 h.hm (L':=nxL K s (eX g.a.f s.i)) rfl
 exact { hi:=hi,hj:=h.hj,c1:=fun _=> .inr ⟨rfl,Int.le_refl _⟩,c2:=fun h'=>by
           have h':0<s.j:=h'
           exact le2_trans (h.c2 h') (h.u1 (by omega) hi)
         u1:=fun _ h'=>lt2_le (edge_lt ha (Nat.lt_succ_self s.i) h')
         u2:=fun _ h'=>hle h',fok:=ho,hL:=v,hE:=fun _=>e,h0:=fun h'=>absurd (show s.i+1+s.j=0 from h') (by omega),hm:=fun _=>m }
theorem cb_stepB {g:CbG}{K:Bool->Bool->Bool}{s:CsG}(ha:vld g.a.L) (hb:vld g.b.L) (hK:K false false=false) (h:CbP g K s) (hj:s.j<2*g.b.n) (hle:s.i<2*g.a.n->le2 (eY g.b.f s.j) (eX g.b.f s.j) (eY g.a.f s.i) (eX g.a.f s.i)) :
  CbP g K ⟨s.i,s.j+1,eAt g.b.f 1 s.j,nxL K s (eX g.b.f s.j)⟩:=by
 have ho:=edge_ok hb hj
 obtain ⟨v,e,m⟩:=sweep ha hb hK h.hi h.hj h.c1 h.c2 hle (fun _=> .inr ⟨rfl,Int.le_refl _⟩) (fun h'=>h.u2 h' hj) h.fok ho h.hL h.hE h.h0 h.hm (L':=nxL K s (eX g.b.f s.j)) rfl
 exact { hi:=h.hi,hj:=hj,c2:=fun _=> .inr ⟨rfl,Int.le_refl _⟩,c1:=fun h'=>by
           have h':0<s.i:=h'
           exact le2_trans (h.c1 h') (h.u2 (by omega) hj)
         u2:=fun _ h'=>lt2_le (edge_lt hb (Nat.lt_succ_self s.j) h')
         u1:=fun _ h'=>hle h',fok:=ho,hL:=v,hE:=fun _=>e,h0:=fun h'=>absurd (show s.i+(s.j+1)=0 from h') (by omega),hm:=fun _=>m }
theorem cb_end {g:CbG}{K:Bool->Bool->Bool}{s:CsG}(ha:vld g.a.L) (hb:vld g.b.L) (hK:K false false=false) (h:CbP g K s) (hi:s.i=2*g.a.n) (hj:s.j=2*g.b.n) :
  ofSet (fun y x=>K (mem g.a.L y x) (mem g.b.L y x))=s.L:=by
 have c1:=h.c1; have c2:=h.c2; have h0:=h.h0; have hm:=h.hm
 rw [hi] at c1 h0 hm
 rw [hj] at c2 h0 hm
 exact swept ha hb hK c1 c2 h.hL h0 hm
end Go.Proofs.YtmhofgchidojoaaGreat.Rgm
set_option linter.unusedSimpArgs false
set_option linter.unusedVariables false
namespace Go.Proofs.YtmhofgchidojoaaGreat.Rgn
open Rga Rgl Rgm
def sumR (f:Int->Int) (lo:Int):Nat->Int
 | 0=>0
 | n+1=>sumR f lo n+f (lo+n)
theorem sumR_congr {f g:Int->Int}{lo:Int}:∀ n:Nat,(∀ x,lo<=x->x<lo+n->f x=g x)->sumR f lo n=sumR g lo n
 | 0,_=>rfl
 | n+1,h=>by
  unfold sumR
  rw [sumR_congr n (fun x h1 h2=>h x h1 (by omega)),h (lo+n) (by omega) (by omega)]
theorem sumR_add (f g:Int->Int) (lo:Int):∀ n:Nat,sumR (fun x=>f x+g x) lo n=sumR f lo n+sumR g lo n
 | 0=>rfl
 | n+1=>by
  unfold sumR
  rw [sumR_add f g lo n]
  omega
theorem sumR_zero (lo:Int):∀ n:Nat,sumR (fun _=>0) lo n=0
 | 0=>rfl
 | n+1=>by unfold sumR; rw [sumR_zero lo n]; rfl
def b2i (b:Bool):Int:=if b then 1 else 0
theorem sumR_run (a b lo:Int) (hab:a<=b):∀ n:Nat,sumR (fun x=>b2i (decide (a<=x/\x<b))) lo n=(if lo+n<=a then 0 else if b<=lo then 0 else (if b<=lo+n then b else lo+n)-(if lo<=a then a else lo))
 | 0=>by
  show (0:Int)=_
  split
  ·rfl
  ·split
   ·rfl
   ·split<;>split<;>omega
 | n+1=>by
  unfold sumR
  rw [sumR_run a b lo hab n]
  have e:(((n+1:Nat)):Int)=n+1:=by omega
  rw [e]
  by_cases h:a<=lo+n/\lo+n<b
  ·rw [decide_eq_true h]
   show _+1=_
   omega
  ·rw [decide_eq_false h]
   show _+0=_
   omega
theorem sumR_at (c v lo:Int):∀ n:Nat,sumR (fun y=>if y=c then v else 0) lo n=if lo<=c/\c<lo+n then v else 0
 | 0=>by
  show (0:Int)=_
  split
  ·omega
  ·rfl
 | n+1=>by
  unfold sumR
  rw [sumR_at c v lo n]
  have e:(((n+1:Nat)):Int)=n+1:=by omega
  rw [e]
  by_cases h1:lo+n=c
  ·rw [if_neg (by omega),if_pos h1,if_pos (by omega)]; omega
  ·rw [if_neg h1]
   by_cases h2:lo<=c/\c<lo+n
   ·rw [if_pos h2,if_pos (by omega)]; omega
   ·rw [if_neg h2,if_neg (by omega)]; rfl
def cnt (χ:Int->Int->Bool):Int:=sumR (fun y=>sumR (fun x=>b2i (χ y x)) (-8192) 16384) (-8192) 16384
theorem cnt_lin {p q r s:Int->Int->Bool}(h:∀ y x,b2i (p y x)+b2i (q y x)=b2i (r y x)+b2i (s y x)):cnt p+cnt q=cnt r+cnt s:=by
 unfold cnt
 rw [<-sumR_add,<-sumR_add]
 refine sumR_congr _ (fun y _ _=>?_)
 rw [<-sumR_add,<-sumR_add]
 exact sumR_congr _ (fun x _ _=>h y x)
theorem cnt_none:cnt (fun _ _=>false)=0:=by
 unfold cnt
 have e:∀ y:Int,sumR (fun x=>b2i ((fun _ _=>false:Int->Int->Bool) y x)) (-8192) 16384=0:=fun y=>(sumR_congr (g:=fun _=>0) _ (fun _ _ _=>rfl)).trans (sumR_zero _ _)
 exact (sumR_congr (g:=fun _=>0) _ (fun y _ _=>e y)).trans (sumR_zero _ _)
theorem cnt_run {r:Rn}(h:okR r):cnt (inR r)=r.x1-r.x0:=by
 obtain ⟨⟨⟨h1,h2⟩,⟨h3,h4⟩,h5,h6⟩,h7⟩:=h
 unfold cnt
 rw [sumR_congr (g:=fun y=>if y=r.y then r.x1-r.x0 else 0) _ (fun y _ _=>?_),sumR_at,if_pos (by omega)]
 by_cases hy:y=r.y
 ·rw [sumR_congr (g:=fun x=>b2i (decide (r.x0<=x/\x<r.x1))) _ (fun x _ _=>?_),sumR_run _ _ _ (by omega)]
  ·omega
  ·unfold inR
   congr 1
   rw [Bool.eq_iff_iff,decide_eq_true_iff,decide_eq_true_iff]
   omega
 ·rw [sumR_congr (g:=fun _=>0) _ (fun x _ _=>?_),sumR_zero,if_neg hy]
  unfold inR
  rw [decide_eq_false (by omega)]
  rfl
def areaL:List Rn->Int
 | []=>0
 | r::L=>(r.x1-r.x0)+areaL L
theorem area_cnt:∀ (L:List Rn),vld L->areaL L=cnt (mem L)
 | [],_=>(cnt_none).symm
 | r::L,h=>by
  have h3:=vld_cons.1 h
  show (r.x1-r.x0)+areaL L=_
  rw [area_cnt L h3.2.2,<-cnt_run h3.1]
  have e:=cnt_lin (p:=inR r) (q:=mem L) (r:=mem (r::L)) (s:=fun _ _=>false) (fun y x=>by
   rw [mem_cons]
   by_cases hr:inR r y x=true
   ·have:mem L y x=false:=by
     rw [<-Bool.not_eq_true]
     intro hm
     have:=beyond h hm
     have:=(inR_iff _ _ _).1 hr
     omega
    rw [hr,this]; rfl
   ·rw [Bool.not_eq_true] at hr
    rw [hr]
    show 0+b2i (mem L y x)=b2i (mem L y x)+0
    omega)
  rw [e,cnt_none,Int.add_zero]
def Lf (f:Nat->Rn) (n:Nat):List Rn:=(List.range n).map f
theorem Lf_succ (f:Nat->Rn) (n:Nat):Lf f (n+1)=Lf f n++[f n]:=by
 unfold Lf
 rw [List.range_succ,List.map_append]
 rfl
theorem Lf_rI (L:List Rn):Lf (rI L) L.length=L:=Rg.L_of L
def shR (dx dy:Int) (r:Rn):Rn:=⟨r.y+dy,r.x0+dx,r.x1+dx⟩
def le0 (r s:Rn):Prop:=r.y<s.y\/(r.y=s.y/\r.x0<=s.x0)
structure JoP (f:Nat->Rn) (n i:Nat) (L:List Rn):Prop where
 hi:i<=n
 hL:vld L
 hm:∀ y x,mem L y x=mem (Lf f i) y x
 ha:∀ k,i<=k->k<n->aft L (f k).y (f k).x0
theorem jo_start (f:Nat->Rn) (n:Nat):JoP f n 0 []:=⟨Nat.zero_le _,vld_nil,fun _ _=>rfl,fun _ _ _=>aft_nil⟩
theorem jo_step {f:Nat->Rn}{n i:Nat}{L:List Rn}(ok:∀ k,k<n->okR (f k)) (srt:∀ j k,j<k->k<n->le0 (f j) (f k)) (h:JoP f n i L) (hi:i<n):JoP f n (i+1) (addR L (f i)):=by
 obtain ⟨v,m,a⟩:=add_ok h.hL (fun _=>ok i hi) (h.ha i (Nat.le_refl _) hi)
 refine ⟨hi,v,fun y x=>?_,fun k hk hkn=>a _ _ ?_⟩
 ·rw [m,h.hm,Lf_succ,mem_app,mem_one]
 ·have:=srt i k hk hkn
  unfold le0 at this
  exact this
theorem mem_congr {L M:List Rn}(h:∀ r,r∈L<->r∈M) (y x:Int):mem L y x=mem M y x:=by
 rw [Bool.eq_iff_iff,mem_iff,mem_iff]
 exact ⟨fun ⟨r,a,b⟩=>⟨r,(h r).1 a,b⟩,fun ⟨r,a,b⟩=>⟨r,(h r).2 a,b⟩⟩
end Go.Proofs.YtmhofgchidojoaaGreat.Rgn
set_option linter.unusedSimpArgs false
set_option linter.unusedVariables false
namespace Go.Proofs.YtmhofgchidojoaaGreat.Rge
open Go.Shelf Go.RowKit Go.Lib Go.Sort Num Rga
theorem or_walk (x y:Int) (b:Nat) (W:World) (h0:W.cell? ⟨b,0,none⟩=some (.int .i64 x)) (h1:W.cell? ⟨b,1,none⟩=some (.int .i64 y)) :
  Calls Tryz.prog 37 #[.slice (some ⟨b,0,none⟩) 2 2] W fun e w'=>e = .returned (.int .i64 (orI x y))/\w'=W:=by
 by_cases hx:x=0
 ·have e:orI x y=y:=if_pos hx
  rw [e]
  clear e
  subst hx
  by_cases hy:y=0
  ·subst hy
   go_enter Tryz.func37,Tryz.ntmps37
   go_wp2
   refine wp_loop_rounds 3 ?_
   rw [rounds_succ]
   go_wp2
   rw [rounds_succ]
   go_wp2
   rw [rounds_succ]
   go_wp2
   go_ret
   exact ⟨rfl,rfl⟩
  ·go_enter Tryz.func37,Tryz.ntmps37
   go_wp2
   refine wp_loop_rounds 3 ?_
   rw [rounds_succ]
   go_wp2
   rw [rounds_succ]
   go_wp2
   go_ret
   exact ⟨rfl,rfl⟩
 ·have e:orI x y=x:=if_neg hx
  rw [e]
  clear e
  go_enter Tryz.func37,Tryz.ntmps37
  go_wp2
  refine wp_loop_rounds 3 ?_
  rw [rounds_succ]
  go_wp2
  go_ret
  exact ⟨rfl,rfl⟩
theorem cell_new {X:World}{vs:Array Value}{T n i:Nat}{v:Value}(hn:X.heap.size=n) (hv:vs[i]?=some v):(X.alloc (.cells vs T)).cell? ⟨n,i,none⟩=some v:=by
 subst hn
 simp [hv]
theorem cmp_walk (a0 a1 a2 b0 b1 b2:Int) (W:World) (h0 : -9223372036854775808<=a0-b0/\a0-b0<=9223372036854775807) (h1 : -9223372036854775808<=a1-b1/\a1-b1<=9223372036854775807) :
  Calls Tryz.prog 36 #[.agg #[.int .i64 a0,.int .i64 a1,.int .i64 a2],.agg #[.int .i64 b0,.int .i64 b1,.int .i64 b2]] W fun e w'=>e = .returned (.int .i64 (orI (a0-b0) (a1-b1)))/\∃ q os',w'=grow (W.drewN q) os':=by
 have hcon:=fun b W' h0 h1=>or_walk (a0-b0) (a1-b1) b W' h0 h1
 generalize orI (a0-b0) (a1-b1)=r at hcon ⊢
 go_enter Tryz.func36,Tryz.ntmps36
 go_wp2_with (go_at_call 37; refine (hcon _ _ (cell_new (by simp) rfl) (cell_new (by simp) rfl)).mono ?_; rintro e w' ⟨rfl,rfl⟩)
 go_ret
 exact ⟨rfl,0,_,by rw [alloc_eq_grow,alloc_eq_grow,alloc_eq_grow,grow_grow,grow_grow]; rfl⟩
end Go.Proofs.YtmhofgchidojoaaGreat.Rge
set_option linter.unusedSimpArgs false
set_option linter.unusedVariables false
namespace Go.Proofs.YtmhofgchidojoaaGreat.Rgb
open Go.RowKit Sx Num Aff Con Rga Rgl Rgm
set_option maxRecDepth 100000
def eS (g:Rg) (w:Int) (i:Nat):SV:= .sl (2*g.n-i) 3 (fun k=>lst [.int .i64 (g.f ((k+i) / 2)).y,.int .i64 (eX g.f (k+i)),.int .i64 w])
def cbInv (g:CbG) (K:Bool->Bool->Bool) (F:Nat):Inv:=⟨CsG,CbP g K,fun s=>⟨[(2,.fn F 0 (lst [])),(7,eS g.a 0 s.i),(8,eS g.b 1 s.j),(9,.own 0 0),(10,.own 1 0),(11,.own 3 0),(12,.bool (K (odd s.i) (odd s.j)))],
  [.cells 2 (lst [.bool (odd s.i),.bool (odd s.j)]) 120,.cells 1 (lst [.osl 2 0]) 82,.row 0 s.L.length 3 (fun i=>lst (rnL (rI s.L i))) 77,.cells 3 (lst (egL s.from')) 122]⟩,fun s=>2*g.a.n+2*g.b.n-s.i-s.j⟩
noncomputable def cbOut (K:Bool->Bool->Bool) (g:CbG):List Rn:=ofSet (fun y x=>K (mem g.a.L y x) (mem g.b.L y x))
theorem odd_succ (i:Nat):(!odd i)=odd (i+1):=by
 unfold odd
 by_cases h:i % 2=1
 ·rw [decide_eq_true h,decide_eq_false (by omega)]; rfl
 ·rw [decide_eq_false h,decide_eq_true (by omega)]; rfl
theorem addL (L:List Rn) (r:Rn):AdG.L ⟨L.length,rI L,r⟩=addR L r:=by
 show addR (Rg.L ⟨L.length,rI L⟩) r=addR L r
 rw [Rg.L_of]
theorem tA {g:CbG}{K:Bool->Bool->Bool}{F:Nat}{s:CsG}(ha:vld g.a.L) (hb:vld g.b.L) (hK:K false false=false) (h:CbP g K s) (hi:s.i<2*g.a.n) (hle:s.j<2*g.b.n->le2 (eY g.a.f s.i) (eX g.a.f s.i) (eY g.b.f s.j) (eX g.b.f s.j)) {M:List Rn}(hM:M=nxL K s (eX g.a.f s.i)) :
  ∃ g',(cbInv g K F).pre g'/\((((Int.ofNat (2*g.a.n-s.i)-Int.ofNat 1).toNat=2*g.a.n-g'.i/\∀ i,i<2*g.a.n-g'.i->(g.a.f (((Int.ofNat 1).toNat+i+s.i) / 2)).y=(g.a.f ((i+g'.i) / 2)).y/\eX g.a.f ((Int.ofNat 1).toNat+i+s.i)=eX g.a.f (i+g'.i))/\
   (2*g.b.n-s.j=2*g.b.n-g'.j/\∀ i,i<2*g.b.n-g'.j->(g.b.f ((i+s.j) / 2)).y=(g.b.f ((i+g'.j) / 2)).y/\eX g.b.f (i+s.j)=eX g.b.f (i+g'.j))/\K (!odd s.i) (odd s.j)=K (odd g'.i) (odd g'.j))/\
   ((!odd s.i)=odd g'.i/\odd s.j=odd g'.j)/\(M.length=g'.L.length/\∀ i,i<g'.L.length->((rI M i).y=(rI g'.L i).y/\(rI M i).x0=(rI g'.L i).x0)/\(rI M i).x1=(rI g'.L i).x1)/\
   ((g.a.f ((Int.toNat 0+s.i) / 2)).y=g'.from'.y/\eX g.a.f (Int.toNat 0+s.i)=g'.from'.x)/\0=g'.from'.who)/\(cbInv g K F).meas g'<(cbInv g K F).meas s:=by
 have z1:(Int.ofNat (2*g.a.n-s.i)-Int.ofNat 1).toNat=2*g.a.n-(s.i+1):=by
  show (((2*g.a.n-s.i:Nat):Int)-((1:Nat):Int)).toNat=_
  omega
 have z2:∀ k:Nat,(Int.ofNat 1).toNat+k+s.i=k+(s.i+1):=fun k=>by show 1+k+s.i=_; omega
 have z3:Int.toNat 0+s.i=s.i:=Nat.zero_add _
 have P:=cb_stepA ha hb hK h hi hle
 have hj:=h.hj
 refine ⟨⟨s.i+1,s.j,eAt g.a.f 0 s.i,M⟩,by rw [hM]; exact P,⟨⟨⟨z1,fun k _=>by rw [z2]; exact ⟨rfl,rfl⟩⟩,⟨rfl,fun k _=>⟨rfl,rfl⟩⟩,by rw [odd_succ]⟩,⟨odd_succ _,rfl⟩,⟨rfl,fun k _=>⟨⟨rfl,rfl⟩,rfl⟩⟩,by rw [z3]; exact ⟨rfl,rfl⟩,rfl⟩,?_⟩
 show 2*g.a.n+2*g.b.n-(s.i+1)-s.j<2*g.a.n+2*g.b.n-s.i-s.j
 omega
theorem tB {g:CbG}{K:Bool->Bool->Bool}{F:Nat}{s:CsG}(ha:vld g.a.L) (hb:vld g.b.L) (hK:K false false=false) (h:CbP g K s) (hj:s.j<2*g.b.n) (hle:s.i<2*g.a.n->le2 (eY g.b.f s.j) (eX g.b.f s.j) (eY g.a.f s.i) (eX g.a.f s.i)) {M:List Rn}(hM:M=nxL K s (eX g.b.f s.j)) :
  ∃ g',(cbInv g K F).pre g'/\(((2*g.a.n-s.i=2*g.a.n-g'.i/\∀ i,i<2*g.a.n-g'.i->(g.a.f ((i+s.i) / 2)).y=(g.a.f ((i+g'.i) / 2)).y/\eX g.a.f (i+s.i)=eX g.a.f (i+g'.i))/\
   ((Int.ofNat (2*g.b.n-s.j)-Int.ofNat 1).toNat=2*g.b.n-g'.j/\∀ i,i<2*g.b.n-g'.j->(g.b.f (((Int.ofNat 1).toNat+i+s.j) / 2)).y=(g.b.f ((i+g'.j) / 2)).y/\eX g.b.f ((Int.ofNat 1).toNat+i+s.j)=eX g.b.f (i+g'.j))/\K (odd s.i) (!odd s.j)=K (odd g'.i) (odd g'.j))/\
   (odd s.i=odd g'.i/\(!odd s.j)=odd g'.j)/\(M.length=g'.L.length/\∀ i,i<g'.L.length->((rI M i).y=(rI g'.L i).y/\(rI M i).x0=(rI g'.L i).x0)/\(rI M i).x1=(rI g'.L i).x1)/\
   ((g.b.f ((Int.toNat 0+s.j) / 2)).y=g'.from'.y/\eX g.b.f (Int.toNat 0+s.j)=g'.from'.x)/\1=g'.from'.who)/\(cbInv g K F).meas g'<(cbInv g K F).meas s:=by
 have z1:(Int.ofNat (2*g.b.n-s.j)-Int.ofNat 1).toNat=2*g.b.n-(s.j+1):=by
  show (((2*g.b.n-s.j:Nat):Int)-((1:Nat):Int)).toNat=_
  omega
 have z2:∀ k:Nat,(Int.ofNat 1).toNat+k+s.j=k+(s.j+1):=fun k=>by show 1+k+s.j=_; omega
 have z3:Int.toNat 0+s.j=s.j:=Nat.zero_add _
 have P:=cb_stepB ha hb hK h hj hle
 have hi:=h.hi
 refine ⟨⟨s.i,s.j+1,eAt g.b.f 1 s.j,M⟩,by rw [hM]; exact P,⟨⟨⟨rfl,fun k _=>⟨rfl,rfl⟩⟩,⟨z1,fun k _=>by rw [z2]; exact ⟨rfl,rfl⟩⟩,by rw [odd_succ]⟩,⟨rfl,odd_succ _⟩,⟨rfl,fun k _=>⟨⟨rfl,rfl⟩,rfl⟩⟩,by rw [z3]; exact ⟨rfl,rfl⟩,rfl⟩,?_⟩
 show 2*g.a.n+2*g.b.n-s.i-(s.j+1)<2*g.a.n+2*g.b.n-s.i-s.j
 omega
def mn (a b:Bool):Bool:=a&&!b
def spM1:FSpec:=mkSpec 21 (γ:=Bool×Bool) (fun | [a,b]=>some (boolOf a,boolOf b) | _=>none) (fun g=>[.bool g.1,.bool g.2]) (fun _=>True) (fun g=> .bool (mn g.1 g.2))
theorem ok_M1:SpecOK Tryz.prog spM1:=by
 refine spec_sound (specs:=[]) (all_ok trivial) (eqs:=[]) (fun _ _ h=>(List.not_mem_nil h).elim) Aff.mixed Tryz.func21 rfl (by kernel_rfl) (fun _ _=>by kernel_rfl) (fun g=>A0) (fun g=>Nat.le_of_ble_eq_true (by kernel_rfl)) ?_
 rintro ⟨a,b⟩ _
 refine vc_of (B:=True/\True/\True/\Sx.Br a (True/\True/\True/\True/\True/\Sx.Ask ((!b)=mn a b)) (True/\True/\True/\Sx.Ask (false=mn a b))) (by kernel_rfl) ?_
 simp only [ask_iff,br_iff,eq_self,true_and,and_true,implies_true,forall_const,decide_eq_true_eq,decide_eq_false_iff_not,ne_eq,Nat.mul_one,Nat.add_zero,Nat.zero_add]
 cases a<;>cases b<;>decide
noncomputable def spCbM:FSpec:=mkSpec 41 (γ:=CbG) (fun | [s,t,.fn _ _ _]=>some ⟨⟨slLen s,rgD s⟩,⟨slLen t,rgD t⟩⟩ | _=>none) (fun g=>[rgS g.a,rgS g.b,.fn 21 0 (lst [])]) (fun g=>vld g.a.L/\vld g.b.L) (fun g=>runsS (cbOut mn g))
theorem ok_cbM:SpecOK Tryz.prog spCbM:=by
 refine spec_sound (specs:=[spEdges,spAddR,giv spOr,spM1]) (all_ok (⟨ok_edges,ok_addR,giv_ok ok_or,ok_M1,trivial⟩)) (eqs:=[]) (fun _ _ h=>(List.not_mem_nil h).elim) Aff.mixed Tryz.func41 rfl (by kernel_rfl) (fun _ _=>by kernel_rfl) (fun g=>(⟨[(5,.inv (cbInv g mn 21))],[(4,[.ownC 1 0 77 3]),(13,[.tmp 13])]⟩:Ann)) (fun g=>Nat.le_of_ble_eq_true (by kernel_rfl)) ?_
 rintro g hg
 refine vc_of (B:=let J:=Int.ofNat;let K:=Sx.Br;let A:=Sx.Ask;let z38:=(4294967296:Nat);let z35:=(9223372036854775807:Int);let z34:=(-9223372036854775808:Int);let z32:=(1:Nat);let z31:=(True/\True);let z25:=((1:Int)=(1:Int));let z21:=(A ((21:Nat)=(21:Nat))/\True);let z20:=(J z32);let z16:=(cbInv g mn (21:Nat));let z9:=((0:Nat)=(0:Nat));let z6:=(2:Nat);let z5:=(0:Int);let z17:=(z5<=z5/\z5<(↑z6:Int));let z15:=(z5<=(1:Int)/\(1:Int)<(↑z6:Int));let z4:=(IntKind.i64=IntKind.i64);True/\True/\(((A (g.a.n=g.a.n)/\∀ i:Nat,i<g.a.n->((True/\A z4/\A ((g.a.f i).y=(g.a.f i).y))/\A z4/\A ((g.a.f i).x0=(g.a.f i).x0))/\A z4/\A ((g.a.f i).x1=(g.a.f i).x1))/\(A z4/\A (z5=z5))/\True)/\A (g.a.n<=z38))/\True/\(((A (g.b.n=g.b.n)/\∀ i:Nat,i<g.b.n->((True/\A z4/\A ((g.b.f i).y=(g.b.f i).y))/\A z4/\A ((g.b.f i).x0=(g.b.f i).x0))/\A z4/\A ((g.b.f i).x1=(g.b.f i).x1))/\(A z4/\A z25)/\True)/\A (g.b.n<=z38))/\True/\True/\True/\True/\True/\True/\True/\True/\(∃ g_1:Rgm.CsG,A (z16.pre g_1)/\((A ((21:Go.FuncId)=(21:Nat))/\True)/\(A (z6*g.a.n=z6*g.a.n-g_1.i)/\∀ i:Nat,i<z6*g.a.n-g_1.i->((True/\A z4/\A ((g.a.f (i / z6)).y=(g.a.f ((i+g_1.i) / z6)).y))/\A z4/\A (Rga.eX g.a.f i=Rga.eX g.a.f (i+g_1.i)))/\A z4/\A (z5=z5))/\(A (z6*g.b.n=z6*g.b.n-g_1.j)/\∀ i:Nat,i<z6*g.b.n-g_1.j->((True/\A z4/\A ((g.b.f (i / z6)).y=(g.b.f ((i+g_1.j) / z6)).y))/\A z4/\A (Rga.eX g.b.f i=Rga.eX g.b.f (i+g_1.j)))/\A z4/\A z25)/\A z9/\A z9/\A z9/\A (false=mn (Rgm.odd g_1.i) (Rgm.odd g_1.j))/\True)/\((True/\A (false=Rgm.odd g_1.i))/\A (false=Rgm.odd g_1.j))/\z31/\(A ((0:Nat)=g_1.L.length)/\∀ i:Nat,i<g_1.L.length->((True/\False)/\False)/\False)/\(((True/\A z4/\A (z5=g_1.from'.y))/\A z4/\A (z5=g_1.from'.x))/\A z4/\A (z5=g_1.from'.who))/\True)/\∀ g_1:Rgm.CsG,let z37:=(A z4/\A (g_1.from'.x=g_1.from'.x));let z36:=(A z4/\A (g_1.from'.y=g_1.from'.y));let z33:=(!Rgm.odd g_1.i);let z24:=(mn (Rgm.odd g_1.i) (Rgm.odd g_1.j));let z23:=((A (z33 = !Rgm.odd g_1.i)/\A (Rgm.odd g_1.j=Rgm.odd g_1.j)/\True)/\A True);let z22:=((A (Rgm.odd g_1.i=Rgm.odd g_1.i)/\A ((!Rgm.odd g_1.j) = !Rgm.odd g_1.j)/\True)/\A True);let z12:=(A (g_1.L.length=g_1.L.length)/\∀ i:Nat,let z30:=(Rga.rI g_1.L i); i<g_1.L.length->((True/\A z4/\A (z30.y=z30.y))/\A z4/\A (z30.x0=z30.x0))/\A z4/\A (z30.x1=z30.x1));let z11:=(z6*g.a.n-g_1.i);let z39:=(↑z11:Int);let z28:=(z5<=z5/\z5<z39);let z18:=(z5<=J z32/\J z32<=J z11/\J z11<=J z11/\J z11<=z39);let z10:=(z6*g.b.n-g_1.j);let z40:=(↑z10:Int);let z29:=(z5<=z5/\z5<z40);let z19:=(z5<=J z32/\J z32<=J z10/\J z10<=J z10/\J z10<=z40);let z8:=(Int.toNat z5+g_1.i);let z27:=(g.a.f (z8 / z6));let z14:=(Rga.AdG.mk g_1.L.length (Rga.rI g_1.L) (Rga.Rn.mk g_1.from'.y g_1.from'.x (Rga.eX g.a.f z8)));let z7:=(Int.toNat z5+g_1.j);let z26:=(g.b.f (z7 / z6));let z13:=(Rga.AdG.mk g_1.L.length (Rga.rI g_1.L) (Rga.Rn.mk g_1.from'.y g_1.from'.x (Rga.eX g.b.f z7)));let z3:=(True/\True/\True/\True/\A z15/\True/\True/\A z15/\True/\True/\True/\A z17/\True/\A z15/\True/\z22/\True/\True/\∃ (g':Rgm.CsG),A (z16.pre g')/\((z21/\(A (z6*g.a.n-g_1.i=z6*g.a.n-g'.i)/\∀ i:Nat,i<z6*g.a.n-g'.i->((True/\A z4/\A ((g.a.f ((i+g_1.i) / z6)).y=(g.a.f ((i+g'.i) / z6)).y))/\A z4/\A (Rga.eX g.a.f (i+g_1.i)=Rga.eX g.a.f (i+g'.i)))/\A z4/\A (z5=z5))/\(A ((J z10-J z32).toNat=z6*g.b.n-g'.j)/\∀ i:Nat,i<z6*g.b.n-g'.j->((True/\A z4/\A ((g.b.f ((z20.toNat+i+g_1.j) / z6)).y=(g.b.f ((i+g'.j) / z6)).y))/\A z4/\A (Rga.eX g.b.f (z20.toNat+i+g_1.j)=Rga.eX g.b.f (i+g'.j)))/\A z4/\A z25)/\A z9/\A z9/\A z9/\A ((mn (Rgm.odd g_1.i) !Rgm.odd g_1.j)=mn (Rgm.odd g'.i) (Rgm.odd g'.j))/\True)/\((True/\A (Rgm.odd g_1.i=Rgm.odd g'.i))/\A ((!Rgm.odd g_1.j)=Rgm.odd g'.j))/\z31/\(A (g_1.L.length=g'.L.length)/\∀ i:Nat,i<g'.L.length->((True/\A z4/\A ((Rga.rI g_1.L i).y=(Rga.rI g'.L i).y))/\A z4/\A ((Rga.rI g_1.L i).x0=(Rga.rI g'.L i).x0))/\A z4/\A ((Rga.rI g_1.L i).x1=(Rga.rI g'.L i).x1))/\(((True/\A z4/\A (z26.y=g'.from'.y))/\A z4/\A (Rga.eX g.b.f z7=g'.from'.x))/\A z4/\A ((1:Int)=g'.from'.who))/\True)/\A (z16.meas g'<z16.meas g_1));let z2:=(True/\True/\True/\True/\A z17/\True/\True/\A z17/\True/\True/\True/\A z17/\True/\A z15/\True/\z23/\True/\True/\∃ (g':Rgm.CsG),A (z16.pre g')/\((z21/\(A ((J z11-J z32).toNat=z6*g.a.n-g'.i)/\∀ i:Nat,i<z6*g.a.n-g'.i->((True/\A z4/\A ((g.a.f ((z20.toNat+i+g_1.i) / z6)).y=(g.a.f ((i+g'.i) / z6)).y))/\A z4/\A (Rga.eX g.a.f (z20.toNat+i+g_1.i)=Rga.eX g.a.f (i+g'.i)))/\A z4/\A (z5=z5))/\(A (z6*g.b.n-g_1.j=z6*g.b.n-g'.j)/\∀ i:Nat,i<z6*g.b.n-g'.j->((True/\A z4/\A ((g.b.f ((i+g_1.j) / z6)).y=(g.b.f ((i+g'.j) / z6)).y))/\A z4/\A (Rga.eX g.b.f (i+g_1.j)=Rga.eX g.b.f (i+g'.j)))/\A z4/\A z25)/\A z9/\A z9/\A z9/\A (mn z33 (Rgm.odd g_1.j)=mn (Rgm.odd g'.i) (Rgm.odd g'.j))/\True)/\((True/\A (z33=Rgm.odd g'.i))/\A (Rgm.odd g_1.j=Rgm.odd g'.j))/\z31/\(A (g_1.L.length=g'.L.length)/\∀ i:Nat,i<g'.L.length->((True/\A z4/\A ((Rga.rI g_1.L i).y=(Rga.rI g'.L i).y))/\A z4/\A ((Rga.rI g_1.L i).x0=(Rga.rI g'.L i).x0))/\A z4/\A ((Rga.rI g_1.L i).x1=(Rga.rI g'.L i).x1))/\(((True/\A z4/\A (z27.y=g'.from'.y))/\A z4/\A (Rga.eX g.a.f z8=g'.from'.x))/\A z4/\A (z5=g'.from'.who))/\True)/\A (z16.meas g'<z16.meas g_1));let z1:=(True/\True/\True/\True/\True/\True/\((True/\(A z9/\z36/\z37/\(A z4/\A (Rga.eX g.b.f z7=Rga.eX g.b.f z7))/\True)/\z31/\z12/\True)/\A (g_1.L.length<=z38))/\True/\True/\True/\True/\A z15/\True/\True/\A z15/\True/\True/\True/\A z17/\True/\A z15/\True/\z22/\True/\True/\∃ (g':Rgm.CsG),A (z16.pre g')/\((z21/\(A (z6*g.a.n-g_1.i=z6*g.a.n-g'.i)/\∀ i:Nat,i<z6*g.a.n-g'.i->((True/\A z4/\A ((g.a.f ((i+g_1.i) / z6)).y=(g.a.f ((i+g'.i) / z6)).y))/\A z4/\A (Rga.eX g.a.f (i+g_1.i)=Rga.eX g.a.f (i+g'.i)))/\A z4/\A (z5=z5))/\(A ((J z10-J z32).toNat=z6*g.b.n-g'.j)/\∀ i:Nat,i<z6*g.b.n-g'.j->((True/\A z4/\A ((g.b.f ((z20.toNat+i+g_1.j) / z6)).y=(g.b.f ((i+g'.j) / z6)).y))/\A z4/\A (Rga.eX g.b.f (z20.toNat+i+g_1.j)=Rga.eX g.b.f (i+g'.j)))/\A z4/\A z25)/\A z9/\A z9/\A z9/\A ((mn (Rgm.odd g_1.i) !Rgm.odd g_1.j)=mn (Rgm.odd g'.i) (Rgm.odd g'.j))/\True)/\((True/\A (Rgm.odd g_1.i=Rgm.odd g'.i))/\A ((!Rgm.odd g_1.j)=Rgm.odd g'.j))/\z31/\(A (z13.L.length=g'.L.length)/\∀ i:Nat,i<g'.L.length->((True/\A z4/\A ((Rga.rI z13.L i).y=(Rga.rI g'.L i).y))/\A z4/\A ((Rga.rI z13.L i).x0=(Rga.rI g'.L i).x0))/\A z4/\A ((Rga.rI z13.L i).x1=(Rga.rI g'.L i).x1))/\(((True/\A z4/\A (z26.y=g'.from'.y))/\A z4/\A (Rga.eX g.b.f z7=g'.from'.x))/\A z4/\A ((1:Int)=g'.from'.who))/\True)/\A (z16.meas g'<z16.meas g_1));let z0:=(True/\True/\True/\True/\True/\True/\((True/\(A z9/\z36/\z37/\(A z4/\A (Rga.eX g.a.f z8=Rga.eX g.a.f z8))/\True)/\z31/\z12/\True)/\A (g_1.L.length<=z38))/\True/\True/\True/\True/\A z17/\True/\True/\A z17/\True/\True/\True/\A z17/\True/\A z15/\True/\z23/\True/\True/\∃ (g':Rgm.CsG),A (z16.pre g')/\((z21/\(A ((J z11-J z32).toNat=z6*g.a.n-g'.i)/\∀ i:Nat,i<z6*g.a.n-g'.i->((True/\A z4/\A ((g.a.f ((z20.toNat+i+g_1.i) / z6)).y=(g.a.f ((i+g'.i) / z6)).y))/\A z4/\A (Rga.eX g.a.f (z20.toNat+i+g_1.i)=Rga.eX g.a.f (i+g'.i)))/\A z4/\A (z5=z5))/\(A (z6*g.b.n-g_1.j=z6*g.b.n-g'.j)/\∀ i:Nat,i<z6*g.b.n-g'.j->((True/\A z4/\A ((g.b.f ((i+g_1.j) / z6)).y=(g.b.f ((i+g'.j) / z6)).y))/\A z4/\A (Rga.eX g.b.f (i+g_1.j)=Rga.eX g.b.f (i+g'.j)))/\A z4/\A z25)/\A z9/\A z9/\A z9/\A (mn z33 (Rgm.odd g_1.j)=mn (Rgm.odd g'.i) (Rgm.odd g'.j))/\True)/\((True/\A (z33=Rgm.odd g'.i))/\A (Rgm.odd g_1.j=Rgm.odd g'.j))/\z31/\(A (z14.L.length=g'.L.length)/\∀ i:Nat,i<g'.L.length->((True/\A z4/\A ((Rga.rI z14.L i).y=(Rga.rI g'.L i).y))/\A z4/\A ((Rga.rI z14.L i).x0=(Rga.rI g'.L i).x0))/\A z4/\A ((Rga.rI z14.L i).x1=(Rga.rI g'.L i).x1))/\(((True/\A z4/\A (z27.y=g'.from'.y))/\A z4/\A (Rga.eX g.a.f z8=g'.from'.x))/\A z4/\A (z5=g'.from'.who))/\True)/\A (z16.meas g'<z16.meas g_1)); z16.pre g_1->True/\True/\True/\True/\A (z34<=z39+z40/\z39+z40<=z35)/\True/\K (decide (z5<z39+z40)) (True/\True/\True/\True/\True/\K (decide (z40=z5)) (True/\True/\A z28/\True/\True/\A z18/\True/\True/\True/\K z24 z0 z2) (True/\True/\True/\True/\K (decide (z5<z39)) (True/\A z28/\True/\True/\True/\A z29/\True/\True/\A (z34<=z27.y-z26.y/\z27.y-z26.y<=z35)/\True/\A z28/\True/\True/\True/\A z29/\True/\True/\A (z34<=Rga.eX g.a.f z8-Rga.eX g.b.f z7/\Rga.eX g.a.f z8-Rga.eX g.b.f z7<=z35)/\True/\(((A (z6=z6)/\∀ i:Nat,i<z6->True/\A z4/\A ((bif decide (i=z32) then Rga.eX g.a.f z8-Rga.eX g.b.f z7 else z27.y-z26.y)=bif decide (i=z32) then Rga.eX g.a.f z8-Rga.eX g.b.f z7 else z27.y-z26.y))/\True)/\A True)/\True/\True/\True/\K (decide (Rga.orI (z27.y-z26.y) (Rga.eX g.a.f z8-Rga.eX g.b.f z7)<=z5)) (True/\A z28/\True/\True/\A z18/\True/\True/\True/\K z24 z0 z2) (True/\A z29/\True/\True/\A z19/\True/\True/\True/\K z24 z1 z3)) (True/\True/\True/\A z29/\True/\True/\A z19/\True/\True/\True/\K z24 z1 z3))) (True/\True/\True/\True/\A (g_1.L.length=(cbOut mn g).length)/\∀ i:Nat,let z41:=(Rga.rI (cbOut mn g) i); i<(cbOut mn g).length->((True/\A z4/\A ((Rga.rI g_1.L i).y=z41.y))/\A z4/\A ((Rga.rI g_1.L i).x0=z41.x0))/\A z4/\A ((Rga.rI g_1.L i).x1=z41.x1))) (by kernel_rfl) ?_
 simp only [ask_iff,br_iff,eq_self,true_and,and_true,implies_true,forall_const,decide_eq_true_eq,decide_eq_false_iff_not,ne_eq,Nat.mul_one,Nat.add_zero,Nat.zero_add]
 obtain ⟨va,vb⟩:=hg
 have na:=vld_len va
 have nb:=vld_len vb
 rw [Rg.len] at na nb
 refine ⟨by omega,by omega,⟨⟨0,0,⟨0,0,0⟩,[]⟩,cb_start g _,⟨⟨rfl,fun k _=>⟨rfl,rfl⟩⟩,⟨rfl,fun k _=>⟨rfl,rfl⟩⟩,rfl⟩,⟨rfl,rfl⟩,⟨rfl,fun k hk=>absurd hk (Nat.not_lt_zero _)⟩,⟨rfl,rfl⟩,rfl⟩,fun s P=>?_⟩
 have P:CbP g mn s:=P
 have p1:=P.hi
 have p2:=P.hj
 have p3:=vld_len P.hL
 have Ai:Int.toNat 0+s.i=s.i:=Nat.zero_add _
 have Aj:Int.toNat 0+s.j=s.j:=Nat.zero_add _
 have r1:∀ (n:Nat),0<n->0<=Int.ofNat 1/\Int.ofNat 1<=Int.ofNat n/\Int.ofNat n<=Int.ofNat n/\Int.ofNat n<=(n:Int):=fun n hn=>⟨by decide,Int.ofNat_le.2 hn,Int.le_refl _,Int.le_refl _⟩
 have f0:((0:Int)<=0/\(0:Int)<((2:Nat):Int)):=by decide
 have f1:((0:Int)<=1/\(1:Int)<((2:Nat):Int)):=by decide
 refine ⟨by omega,fun hlt=>⟨fun hb0=>?_,fun hb0=>⟨fun ha0=>?_,fun ha0=>?_⟩⟩,fun hge=>?_⟩
 ·have hi:s.i<2*g.a.n:=by omega
  exact ⟨by omega,r1 _ (by omega),fun ho=>⟨by omega,f0,f0,f0,f1,tA (K:=mn) va vb rfl P hi (fun h=>absurd h (by omega)) ((addL s.L _).trans ((if_pos ho).symm.trans (by rw [Ai]; rfl)))⟩,
   fun hc=>⟨f0,f0,f0,f1,tA (K:=mn) va vb rfl P hi (fun h=>absurd h (by omega)) (if_neg (fun h=>Bool.noConfusion (hc.symm.trans h))).symm⟩⟩
 ·have hi:s.i<2*g.a.n:=by omega
  have hj:s.j<2*g.b.n:=by omega
  have b1:=edge_ok va hi
  have b2:=edge_ok vb hj
  have e1:(g.a.f (s.i / 2)).y=eY g.a.f s.i:=rfl
  have e2:(g.b.f (s.j / 2)).y=eY g.b.f s.j:=rfl
  have c1:(g.a.f ((Int.toNat 0+s.i) / 2)).y=eY g.a.f s.i:=by rw [Ai]; rfl
  have c2:(g.b.f ((Int.toNat 0+s.j) / 2)).y=eY g.b.f s.j:=by rw [Aj]; rfl
  have c3:eX g.a.f (Int.toNat 0+s.i)=eX g.a.f s.i:=by rw [Ai]
  have c4:eX g.b.f (Int.toNat 0+s.j)=eX g.b.f s.j:=by rw [Aj]
  have q1:(0:Int)<=0/\0<((2*g.a.n-s.i:Nat):Int):=by omega
  have q2:(0:Int)<=0/\0<((2*g.b.n-s.j:Nat):Int):=by omega
  refine ⟨q1,q2,by rw [c1,c2]; omega,q1,q2,by rw [c3,c4]; omega,fun hor=>?_,fun hor=>?_⟩
  ·rw [c1,c2,c3,c4,or_le] at hor
   exact ⟨q1,r1 _ (by omega),fun ho=>⟨by omega,f0,f0,f0,f1,tA (K:=mn) va vb rfl P hi (fun _=>hor) ((addL s.L _).trans ((if_pos ho).symm.trans (by rw [Ai]; rfl)))⟩,
    fun hc=>⟨f0,f0,f0,f1,tA (K:=mn) va vb rfl P hi (fun _=>hor) (if_neg (fun h=>Bool.noConfusion (hc.symm.trans h))).symm⟩⟩
  ·rw [c1,c2,c3,c4,or_le] at hor
   exact ⟨q2,r1 _ (by omega),fun ho=>⟨by omega,f1,f1,f0,f1,tB (K:=mn) va vb rfl P hj (fun _=>by omega) ((addL s.L _).trans ((if_pos ho).symm.trans (by rw [Aj]; rfl)))⟩,
    fun hc=>⟨f1,f1,f0,f1,tB (K:=mn) va vb rfl P hj (fun _=>by omega) (if_neg (fun h=>Bool.noConfusion (hc.symm.trans h))).symm⟩⟩
 ·have hj:s.j<2*g.b.n:=by omega
  exact ⟨by omega,r1 _ (by omega),fun ho=>⟨by omega,f1,f1,f0,f1,tB (K:=mn) va vb rfl P hj (fun h=>absurd h (by omega)) ((addL s.L _).trans ((if_pos ho).symm.trans (by rw [Aj]; rfl)))⟩,
   fun hc=>⟨f1,f1,f0,f1,tB (K:=mn) va vb rfl P hj (fun h=>absurd h (by omega)) (if_neg (fun h=>Bool.noConfusion (hc.symm.trans h))).symm⟩⟩
 ·have e:=cb_end va vb rfl P (by omega) (by omega)
  have e:cbOut mn g=s.L:=e
  rw [e]
  exact ⟨rfl,fun k _=>⟨⟨rfl,rfl⟩,rfl⟩⟩
end Go.Proofs.YtmhofgchidojoaaGreat.Rgb
set_option linter.unusedSimpArgs false
set_option linter.unusedVariables false
namespace Go.Proofs.YtmhofgchidojoaaGreat.Rgc
open Go.RowKit Sx Num Aff Con Rga Rgl Rgm Rgn Rgb
set_option maxRecDepth 100000
def okP (s:SV):SV:= .tup 2 (lst [s,.int .i64 0])
theorem bnd {L:List Rn}(h:vld L):L.length<=4294967296:=Nat.le_trans (vld_len h) (by decide)
theorem bndg {g:Rg}(h:vld g.L):g.n<=4294967296:=Rg.len g▸bnd h
noncomputable def spBoM:FSpec:=mkSpec 20 (γ:=CbG) (fun | [s,t,.fn _ _ _]=>some ⟨⟨slLen s,rgD s⟩,⟨slLen t,rgD t⟩⟩ | _=>none) (fun g=>[rgS g.a,rgS g.b,.fn 21 0 (lst [])]) (fun g=>vld g.a.L/\vld g.b.L) (fun g=>okP (runsS (cbOut mn g)))
theorem ok_boM:SpecOK Tryz.prog spBoM:=by
 refine spec_sound (specs:=[spCheckR,spCbM]) (all_ok (⟨ok_checkR,ok_cbM,trivial⟩)) (eqs:=[]) (fun _ _ h=>(List.not_mem_nil h).elim) Aff.mixed Tryz.func20 rfl (by kernel_rfl) (fun _ _=>by kernel_rfl) (fun g=>(⟨[(2,.rounds 3)],[]⟩:Ann)) (fun g=>Nat.le_of_ble_eq_true (by kernel_rfl)) ?_
 rintro g ⟨va,vb⟩
 refine vc_of (B:=let A:=Sx.Ask;let z6:=(1:Int);let z5:=(Rgb.cbOut Rgb.mn g);let z4:=(0:Int);let z0:=(IntKind.i64=IntKind.i64);let z2:=(A (g.b.n=g.b.n)/\∀ i:Nat,i<g.b.n->((True/\A z0/\A ((g.b.f i).y=(g.b.f i).y))/\A z0/\A ((g.b.f i).x0=(g.b.f i).x0))/\A z0/\A ((g.b.f i).x1=(g.b.f i).x1));let z1:=(A (g.a.n=g.a.n)/\∀ i:Nat,i<g.a.n->((True/\A z0/\A ((g.a.f i).y=(g.a.f i).y))/\A z0/\A ((g.a.f i).x0=(g.a.f i).x0))/\A z0/\A ((g.a.f i).x1=(g.a.f i).x1));True/\True/\True/\True/\True/\True/\True/\A (z4<=z4/\z4<(↑(2:Nat):Int))/\True/\True/\((z1/\True)/\A (Rga.vld g.a.L/\g.a.n<=(4294967296:Nat)))/\True/\True/\True/\A ((-9223372036854775808:Int)<=z4+z6/\z4+z6<=(9223372036854775807:Int))/\True/\True/\A (z4<=z4+z6/\z4+z6<(↑(2:Nat):Int))/\True/\True/\((z2/\True)/\A (Rga.vld g.b.L/\g.b.n<=(4294967296:Nat)))/\True/\True/\True/\A ((-9223372036854775808:Int)<=z4+z6+z6/\z4+z6+z6<=(9223372036854775807:Int))/\True/\True/\True/\True/\True/\((z1/\z2/\(A ((21:Go.FuncId)=(21:Go.FuncId))/\True)/\True)/\A (Rga.vld g.a.L/\Rga.vld g.b.L))/\True/\True/\True/\(True/\A (z5.length=z5.length)/\∀ i:Nat,let z3:=(Rga.rI z5 i); i<z5.length->((True/\A z0/\A (z3.y=z3.y))/\A z0/\A (z3.x0=z3.x0))/\A z0/\A (z3.x1=z3.x1))/\A z0/\A (z4=z4)) (by kernel_rfl) ?_
 simp only [ask_iff,br_iff,eq_self,true_and,and_true,implies_true,forall_const,decide_eq_true_eq,decide_eq_false_iff_not,ne_eq,Nat.mul_one,Nat.add_zero,Nat.zero_add]
 have na:=bndg va
 have nb:=bndg vb
 repeat' (first | exact va | exact vb | apply And.intro)
 all_goals (first | decide | omega)
noncomputable def spMinus:FSpec:=mkSpec 9 (γ:=CbG) (fun | [s,t]=>some ⟨⟨slLen s,rgD s⟩,⟨slLen t,rgD t⟩⟩ | _=>none) (fun g=>[rgS g.a,rgS g.b]) (fun g=>vld g.a.L/\vld g.b.L) (fun g=>okP (runsS (cbOut mn g)))
theorem ok_Minus:SpecOK Tryz.prog spMinus:=by
 refine spec_sound (specs:=[spBoM]) (all_ok (⟨ok_boM,trivial⟩)) (eqs:=[]) (fun _ _ h=>(List.not_mem_nil h).elim) Aff.mixed Tryz.func9 rfl (by kernel_rfl) (fun _ _=>by kernel_rfl) (fun g=>A0) (fun g=>Nat.le_of_ble_eq_true (by kernel_rfl)) ?_
 rintro g ⟨va,vb⟩
 refine vc_of (B:=let A:=Sx.Ask;let z2:=(Rgb.cbOut Rgb.mn g);let z0:=(IntKind.i64=IntKind.i64);True/\True/\True/\True/\(((A (g.a.n=g.a.n)/\∀ i:Nat,i<g.a.n->((True/\A z0/\A ((g.a.f i).y=(g.a.f i).y))/\A z0/\A ((g.a.f i).x0=(g.a.f i).x0))/\A z0/\A ((g.a.f i).x1=(g.a.f i).x1))/\(A (g.b.n=g.b.n)/\∀ i:Nat,i<g.b.n->((True/\A z0/\A ((g.b.f i).y=(g.b.f i).y))/\A z0/\A ((g.b.f i).x0=(g.b.f i).x0))/\A z0/\A ((g.b.f i).x1=(g.b.f i).x1))/\(A ((21:Nat)=(21:Go.FuncId))/\True)/\True)/\A (Rga.vld g.a.L/\Rga.vld g.b.L))/\True/\True/\True/\True/\True/\(True/\A (z2.length=z2.length)/\∀ i:Nat,let z1:=(Rga.rI z2 i); i<z2.length->((True/\A z0/\A (z1.y=z1.y))/\A z0/\A (z1.x0=z1.x0))/\A z0/\A (z1.x1=z1.x1))/\A z0/\A ((0:Int)=(0:Int))) (by kernel_rfl) ?_
 simp only [ask_iff,br_iff,eq_self,true_and,and_true,implies_true,forall_const,decide_eq_true_eq,decide_eq_false_iff_not,ne_eq,Nat.mul_one,Nat.add_zero,Nat.zero_add]
 exact ⟨va,vb⟩
structure EqG where
 a:Rg
 b:Rg
def EqG.ok (g:EqG):Prop:=vld g.a.L/\g.a.L=g.b.L
end Go.Proofs.YtmhofgchidojoaaGreat.Rgc
set_option linter.unusedSimpArgs false
set_option linter.unusedVariables false
namespace Go.Proofs.YtmhofgchidojoaaGreat.Rgd
open Go.RowKit Sx Num Aff Con Rga Rgl Rgm Rgn Rgb Rgc
set_option maxRecDepth 100000
structure ShG where
 g:Rg
 dx:Int
 dy:Int
def ShG.f (h:ShG):Nat->Rn:=fun i=>shR h.dx h.dy (h.g.f i)
structure ShG.ok (h:ShG):Prop where
 v:vld h.g.L
 x : -16384<=h.dx/\h.dx<=16384
 y : -16384<=h.dy/\h.dy<=16384
 r:∀ i,i<h.g.n->okR (h.f i)
def ShG.L (h:ShG):List Rn:=Lf h.f h.g.n
structure ReG where
 x0:Int
 y0:Int
 x1:Int
 y1:Int
def ReG.f (h:ReG):Nat->Rn:=fun k=>⟨h.y0+k,h.x0,h.x1⟩
def ReG.n (h:ReG):Nat:=(h.y1-h.y0).toNat
structure ReG.ok (h:ReG):Prop where
 x0 : -8192<=h.x0/\h.x0<=8192
 y0 : -8192<=h.y0/\h.y0<=8192
 x1 : -8192<=h.x1/\h.x1<=8192
 y1 : -8192<=h.y1/\h.y1<=8192
 x:h.x0<h.x1
 y:h.y0<=h.y1
abbrev lA:List Rn:=[⟨0,0,2⟩,⟨1,0,2⟩]
abbrev lB:List Rn:=[⟨1,2,4⟩,⟨2,2,4⟩]
theorem vB:vld lB:=by unfold vld okR ltR; decide
theorem eA:Lf (ReG.f ⟨0,0,2,2⟩) (ReG.n ⟨0,0,2,2⟩)=lA:=rfl
theorem eB:Lf (ReG.f ⟨2,1,4,3⟩) (ReG.n ⟨2,1,4,3⟩)=lB:=rfl
end Go.Proofs.YtmhofgchidojoaaGreat.Rgd
namespace Go.Proofs
open Go.Shelf
def Tryz.sortrun_ren:Go.Shelf.Ren:=⟨fun | 6=>35 | 15=>42 | 14=>60 | 28=>64 | 29=>65 | 20=>78 | 21=>79 | 22=>80 | 23=>81 | 24=>82 | 25=>83 | 26=>84 | 27=>85 | 46=>89 | 47=>90 | 48=>91 | 49=>92 | 50=>93 | 57=>103 | n=>n,fun | 22=>34 | 24=>77 | 25=>80 | 3=>3 | 39=>89 | 0=>0 | 53=>124 | 55=>126 | 4=>4 | 46=>136 | 45=>135 | 50=>140 | 5=>5 | 9=>9 | 66=>145 | 70=>149 | 76=>156 | 77=>157 | n=>n,fun | n=>n⟩
theorem Tryz.sortrun:Go.Proofs.SlLaysF0.n6 Tryz.prog Tryz.sortrun_ren:={
  mixed:=by kernel_rfl
  f6:=⟨Tryz.f35.name,by decide,Tryz.func35.trans (congrArg some (by kernel_rfl))⟩
  f14:=⟨Tryz.f60.name,by decide,Tryz.func60.trans (congrArg some (by kernel_rfl))⟩
  f15:=Tryz.func42.trans (congrArg some (by kernel_rfl))
  f20:=⟨Tryz.f78.name,by decide,Tryz.func78.trans (congrArg some (by kernel_rfl))⟩
  f21:=⟨Tryz.f79.name,by decide,Tryz.func79.trans (congrArg some (by kernel_rfl))⟩
  f22:=⟨Tryz.f80.name,by decide,Tryz.func80.trans (congrArg some (by kernel_rfl))⟩
  f23:=⟨Tryz.f81.name,by decide,Tryz.func81.trans (congrArg some (by kernel_rfl))⟩
  f24:=⟨Tryz.f82.name,by decide,Tryz.func82.trans (congrArg some (by kernel_rfl))⟩
  f25:=⟨Tryz.f83.name,by decide,Tryz.func83.trans (congrArg some (by kernel_rfl))⟩
  f26:=⟨Tryz.f84.name,by decide,Tryz.func84.trans (congrArg some (by kernel_rfl))⟩
  f27:=⟨Tryz.f85.name,by decide,Tryz.func85.trans (congrArg some (by kernel_rfl))⟩
  f28:=Tryz.func64.trans (congrArg some (by kernel_rfl))
  f29:=Tryz.func65.trans (congrArg some (by kernel_rfl))
  f46:=⟨Tryz.f89.name,by decide,Tryz.func89.trans (congrArg some (by kernel_rfl))⟩
  f47:=Tryz.func90.trans (congrArg some (by kernel_rfl))
  f48:=Tryz.func91.trans (congrArg some (by kernel_rfl))
  f49:=⟨Tryz.f92.name,by decide,Tryz.func92.trans (congrArg some (by kernel_rfl))⟩
  f50:=⟨Tryz.f93.name,by decide,Tryz.func93.trans (congrArg some (by kernel_rfl))⟩
  f57:=⟨Tryz.f103.name,by decide,Tryz.func103.trans (congrArg some (by kernel_rfl))⟩
  t0:=Tryz.underlying0
  a0:=Tryz.isAgg0
  z0:=Tryz.sizeOf0
  v0:=Tryz.zeroValue0
  t3:=Tryz.underlying3
  a3:=Tryz.isAgg3
  z3:=Tryz.sizeOf3
  v3:=Tryz.zeroValue3
  t4:=Tryz.underlying4
  a4:=Tryz.isAgg4
  z4:=Tryz.sizeOf4
  v4:=Tryz.zeroValue4
  t5:=Tryz.underlying5
  a5:=Tryz.isAgg5
  z5:=Tryz.sizeOf5
  v5:=Tryz.zeroValue5
  t9:=Tryz.underlying9
  a9:=Tryz.isAgg9
  z9:=Tryz.sizeOf9
  v9:=Tryz.zeroValue9
  t22:=Tryz.underlying34
  a22:=Tryz.isAgg34
  z22:=Tryz.sizeOf34
  v22:=Tryz.zeroValue34
  t25:=Tryz.underlying80
  a25:=Tryz.isAgg80
  z25:=Tryz.sizeOf80
  v25:=Tryz.zeroValue80
  t39:=Tryz.underlying89
  a39:=Tryz.isAgg89
  z39:=Tryz.sizeOf89
  v39:=Tryz.zeroValue89
  t45:=Tryz.underlying135
  a45:=Tryz.isAgg135
  z45:=Tryz.sizeOf135
  v45:=Tryz.zeroValue135
  t46:=Tryz.underlying136
  a46:=Tryz.isAgg136
  z46:=Tryz.sizeOf136
  v46:=Tryz.zeroValue136
  t50:=Tryz.underlying140
  a50:=Tryz.isAgg140
  z50:=Tryz.sizeOf140
  v50:=Tryz.zeroValue140
  t53:=Tryz.underlying124
  a53:=Tryz.isAgg124
  z53:=Tryz.sizeOf124
  v53:=Tryz.zeroValue124
  t55:=Tryz.underlying126
  a55:=Tryz.isAgg126
  z55:=Tryz.sizeOf126
  v55:=Tryz.zeroValue126
  t66:=Tryz.underlying145
  a66:=Tryz.isAgg145
  z66:=Tryz.sizeOf145
  v66:=Tryz.zeroValue145
  t70:=Tryz.underlying149
  a70:=Tryz.isAgg149
  z70:=Tryz.sizeOf149
  v70:=Tryz.zeroValue149
  t76:=Tryz.underlying156
  a76:=Tryz.isAgg156
  z76:=Tryz.sizeOf156
  v76:=Tryz.zeroValue156
  t77:=Tryz.underlying157
  a77:=Tryz.isAgg157
  z77:=Tryz.sizeOf157
  v77:=Tryz.zeroValue157 }
end Go.Proofs
set_option linter.unusedSimpArgs false
set_option linter.unusedVariables false
namespace Go.Proofs.YtmhofgchidojoaaGreat.Rgf
open Go.Shelf Go.RowKit Go.Lib Go.Sort Sx Num Rga Rgl Rgm Rgn Rge
theorem specM_hand {P:Program}{f:FuncId}(hent:∀ args w,(callFunc f args).run P w = .ok (.enter f args) w)
  {paths:List NP}{γ:Type}{dec:List SV->List SO->Option γ}{args:γ->List SV}{objs:γ->List SO}{pre:γ->Prop}{res:γ->SV}{post:γ->List SO}
  (h:∀ g,pre g->∀ (vals:Array Value) (w:World) (X:Fr) (E:Env),(∀ k,X.nm k≠none->k<paths.length)->Rep w X (objs g) E w->vals.size=(args g).length->
   (∀ i,i<(args g).length->R w (Xo X E (objs g)) E ((args g).getD i .any) (vals.getD i undef))->
   Calls P f vals w fun e w'=>∃ v Es,e = .returned v/\Rep w X (post g) Es w'/\R w' (Xo X Es (post g)) Es (res g) v):SpecOK P (mkSpecM f paths dec args objs pre res post):=by
 refine ⟨hent,fun l H HF nm y he hns hrun=>?_,fun l H nm y hrun hask w0 X0 E w hrep hfree vals ha=>?_⟩
 ·simp only [mkSpecM] at hrun ⊢
  split at hrun
  case h_2=>cases hrun
  rename_i ks hks
  split at hrun
  case h_2=>cases hrun
  rename_i hnd
  simp only [Bool.and_eq_true] at hnd
  rw [namesOf_ext he paths [] ks hks]
  simp only [objsAt_ext he hnd.2,hnd.1,hnd.2,Bool.and_self]
  exact hrun
 ·simp only [mkSpecM] at hrun
  split at hrun
  case h_2=>cases hrun
  rename_i ks hks
  split at hrun
  case h_2=>cases hrun
  rename_i hnd
  simp only [Bool.and_eq_true] at hnd
  obtain ⟨hn,hal⟩:=hnd
  split at hrun
  case h_2=>cases hrun
  rename_i g hdec
  cases hrun
  obtain ⟨⟨hle,⟨hpre⟩⟩,hholes⟩:=withHoles_get hask
  obtain ⟨hkn,hkl⟩:=namesOf_known hrep ha paths [] ks (fun k hk=>by cases hk) (holesP_of hholes) hks
  have hkl':ks.length=paths.length:=by simpa using hkl
  unfold argLe at hle
  split at hle
  case h_2=>exact hle.elim
  rename_i hll
  have hll':=Nat.eq_of_beq_eq_true hll
  rw [List.length_map] at hll'
  obtain ⟨hs,hxs⟩:=hrep.sml hn hal
  have hv:=hrep.verOK hal
  have hnm:∀ k,(smlF X0 H E ks).nm k≠none->k<paths.length:=fun k hk=>by
   cases he:smlE E ks k with
   | none=>exact absurd he hk
   | some e=>
    obtain ⟨k',hk',_⟩:=smlE_inv he
    have:=(List.getElem?_eq_some_iff.1 hk').1
    omega
  have hT:=argsT_look (args g).length vals (l.map (sml (objsAt H ks) ks)) w (Xo (smlF X0 H E ks) (smlE E ks) ((objsAt H ks).map (smlO (objsAt H ks) ks))) (smlE E ks) (by rw [ha.1,List.length_map]) (by rw [List.length_map,hll']; exact Nat.le_refl _) (fun i hi=>by
   rw [List.length_map] at hi
   have e1:(l.map (sml (objsAt H ks) ks)).getD i .any=sml (objsAt H ks) ks (l.getD i .any):=by
    rw [List.getD_eq_getElem?_getD,List.getElem?_map,List.getD_eq_getElem?_getD,List.getElem?_eq_getElem hi]; rfl
   rw [e1]
   exact R_sml hxs hv (ha.2 i hi))
  have hvs:vals.size=(args g).length:=by rw [ha.1,hll']
  have hst:StR w (smlF X0 H E ks) (args g).length ⟨argsT 0 (l.map (sml (objsAt H ks) ks)),(objsAt H ks).map (smlO (objsAt H ks) ks)⟩ ⟨vals++Array.replicate ((args g).length-vals.size) undef,[]⟩ w:=⟨smlE E ks,hs,hT.1,DefOK.nil _ _ _,hT.2⟩
  have hst2:=hst.le (m:=((objsAt H ks).map (smlO (objsAt H ks) ks)).length) (fun k hk=>by rw [List.length_map,objsAt,List.length_map,hkl']; exact hnm k hk) hle.get.1 hle.get.2
  obtain ⟨E2,hrep2,hsz2,_,hT2⟩:=hst2
  refine (h g hpre vals w (smlF X0 H E ks) E2 hnm hrep2 hvs (fun i hi=>?_)).mono ?_
  ·have:=hT2 i hi
   rw [lookT_args _ _ _ (Nat.zero_le _),Nat.sub_zero] at this
   rw [hvs,Nat.sub_self] at this
   simpa using this
  ·rintro e w' ⟨v,Es,rfl,h3,h4⟩
   exact ⟨v,rfl,Goes.of_sml hrep hn hkn hal h3 h4⟩
instance:Inhabited Rn:=⟨⟨0,0,0⟩⟩
def cl (v:Int):Int:=if v < -8192 then -8192 else if 8192<v then 8192 else v
theorem cl_ok {v:Int}(h1 : -8192<=v) (h2:v<=8192):cl v=v:=by
 unfold cl
 rw [if_neg (by omega),if_neg (by omega)]
theorem cl_b (v:Int) : -8192<=cl v/\cl v<=8192:=by
 unfold cl
 split
 ·omega
 ·split<;>omega
def enR (r:Rn):List Value:=[.int .i64 (cl r.y),.int .i64 (cl r.x0),.int .i64 (cl r.x1)]
def cfR (x y:Rn):Int:=orI (cl x.y-cl y.y) (cl x.x0-cl y.x0)
theorem lt_iff (x y:Rn):ltOf cfR x y=true<->(cl x.y<cl y.y\/(cl x.y=cl y.y/\cl x.x0<cl y.x0)):=by
 unfold ltOf cfR orI
 rw [decide_eq_true_iff]
 split<;>omega
theorem lt_iff' (x y:Rn):ltOf cfR x y=false<->¬ (cl x.y<cl y.y\/(cl x.y=cl y.y/\cl x.x0<cl y.x0)):=by
 rw [<-lt_iff,Bool.not_eq_true]
theorem swo:SWO (ltOf cfR) where
 irrefl x:=by rw [lt_iff']; omega
 trans x y z h1 h2:=by rw [lt_iff] at *; omega
 ntrans x y z h1 h2:=by rw [lt_iff'] at *; omega
theorem cmpLays (blk off sz:Nat) (w:World):CmpLays Tryz.prog 36 #[] enR 3 cfR blk off sz w:=fun _ _ _ _ x y=>by
 have a1:=cl_b x.y; have a2:=cl_b y.y; have a3:=cl_b x.x0; have a4:=cl_b y.x0
 exact cmp_walk (cl x.y) (cl x.x0) (cl x.x1) (cl y.y) (cl y.x0) (cl y.x1) _ (by omega) (by omega)
def srtA (d:Array Rn):Array Rn:=pdq (ltOf cfR) d 0 d.size (Lib.bitLen d.size) true true
def srt (g:Rg):List Rn:=(srtA g.L.toArray).toList
theorem srtA_spec (d:Array Rn):PermIn 0 d.size d (srtA d)/\SortedIn (ltOf cfR) 0 d.size (srtA d):=
 pdq_sorts (ltOf cfR) swo d 0 d.size (Lib.bitLen d.size) true true (Nat.zero_le _) (Nat.le_refl _) (Or.inl rfl)
theorem srt_len (g:Rg):(srt g).length=g.n:=by
 have:=(srtA_spec g.L.toArray).1.1
 unfold srt
 rw [Array.length_toList,this,List.size_toArray,Rg.len]
theorem srt_perm (g:Rg):(srt g).Perm g.L:=by
 have h:=(srtA_spec g.L.toArray).1
 have h2:=h.2.2
 have e1:((srtA g.L.toArray).extract 0 g.L.toArray.size)=srtA g.L.toArray:=by rw [<-h.1]; simp
 have e2:(g.L.toArray.extract 0 g.L.toArray.size)=g.L.toArray:=by simp
 rw [e1,e2] at h2
 unfold srt
 simpa using h2
theorem srt_sorted (g:Rg) {i j:Nat}(hij:i<j) (hj:j<g.n):ltOf cfR (rI (srt g) j) (rI (srt g) i)=false:=by
 have h:=(srtA_spec g.L.toArray).2 i j (Nat.zero_le _) hij (by rw [List.size_toArray,Rg.len]; exact hj)
 have hs:(srtA g.L.toArray).size=g.n:=by rw [(srtA_spec g.L.toArray).1.1,List.size_toArray,Rg.len]
 have e:∀ k,k<g.n->rI (srt g) k=(srtA g.L.toArray)[k]!:=fun k hk=>by
  unfold rI srt
  rw [getElem!_pos _ k (by omega),List.getD_eq_getElem?_getD,List.getElem?_eq_getElem (by rw [Array.length_toList]; omega)]
  simp
 rw [e i (by omega),e j hj]
 exact h
theorem row_turn {w w':World}{X:Fr}{E:Env}{n:Nat}{g g':Nat->Nat->SV}{T:TypeId}{v:Value}{us:Nat->Option Nat}(h:Rep w X [.row 0 n 3 g T] E w) (he:E 0=some (.slc 0 v us))
  (hos:w'.os=w.os) (htp:w'.tape=w.tape) (hout:w'.output=w.output) (hsz:w.heap.size<=w'.heap.size)
  (hblk:∀ k,k<w.heap.size->(∀ b,holds (.slc 0 v us) (.row 0 n 3 g T) b->k≠b)->w'.heap[k]?=w.heap[k]?)
  (hok:∃ xs,OwnsR w' T 3 v n xs/\∀ i j,i<n->j<3->oneCell (xs.getD (i*3+j) undef)/\∀ X',R w' X' E0 (g' i j) (xs.getD (i*3+j) undef)) :
  Rep w X [.row 0 n 3 g' T] E w':=by
 have hd:∀ k e,E k=some e->k=0/\e = .slc 0 v us:=fun k e hk=>by
  have h1:=h.dom k e hk
  have h0:k=0:=by simp at h1; omega
  subst h0
  rw [he] at hk
  exact ⟨rfl,(Option.some.inj hk).symm⟩
 have hh:∀ b,holds (.slc 0 v us) (.row 0 n 3 g' T) b->holds (.slc 0 v us) (.row 0 n 3 g T) b:=fun b hb=>hb
 refine ⟨⟨hos,htp,hout,hsz,fun k hk hdk=>hblk k hk (fun b hb hkb=>?_)⟩,h.x0,h.nm,h.dom,fun k e hk=>?_,fun k e b hk hb=>?_,fun k k' e e' b hk hk' hb hb'=>?_⟩
 ·rcases h.low 0 _ b he hb with h1 | h1
  ·omega
  ·exact hdk (hkb▸h1)
 ·obtain ⟨rfl,rfl⟩:=hd k e hk
  obtain ⟨xs,h1,h2⟩:=hok
  exact ⟨rfl,xs,h1,fun i j hi hj=>⟨(h2 i j hi hj).1,(h2 i j hi hj).2 _⟩⟩
 ·obtain ⟨rfl,rfl⟩:=hd k e hk
  exact h.low 0 _ b he (hh b hb)
 ·rw [(hd k e hk).1,(hd k' e' hk').1]
theorem sort_block {w:World}{b:Nat}{cur:Array Value}{T:TypeId}(hb:w.heap[b]?=some (.cells cur T (0,0))) (m:Nat) (d:Array Rn) (os:Array Obj) :
  (sortWorldK enR 3 w b 0 m d os).heap[b]?=some (.cells (putCells id 0 (flatK enR 3 d) cur) T (0,0)):=by
 have hlt:b<w.heap.size:=lt_of_block hb
 show ((w.heap.modify b (onCells (putCells id 0 (flatK enR 3 d))))++os)[b]?=_
 rw [Array.getElem?_append_left (by rw [Array.size_modify]; exact hlt),Array.getElem?_modify,if_pos rfl,hb]
 rfl
theorem sort_other {w:World}{b k:Nat}(hk:k<w.heap.size) (hne:k≠b) (m:Nat) (d:Array Rn) (os:Array Obj):(sortWorldK enR 3 w b 0 m d os).heap[k]?=w.heap[k]?:=by
 show ((w.heap.modify b (onCells (putCells id 0 (flatK enR 3 d))))++os)[k]?=_
 rw [Array.getElem?_append_left (by rw [Array.size_modify]; exact hk),Array.getElem?_modify,if_neg (Ne.symm hne)]
theorem sort_size (w:World) (b m:Nat) (d:Array Rn) (os:Array Obj):w.heap.size<=(sortWorldK enR 3 w b 0 m d os).heap.size:=by
 show _<=((w.heap.modify b (onCells (putCells id 0 (flatK enR 3 d))))++os).size
 rw [Array.size_append,Array.size_modify]
 exact Nat.le_add_right _ _
theorem rn_cases {r:Rn}{j:Nat}(hj:j<3) (P:SV->Value->Prop) (h0:P (.int .i64 r.y) (.int .i64 r.y)) (h1:P (.int .i64 r.x0) (.int .i64 r.x0)) (h2:P (.int .i64 r.x1) (.int .i64 r.x1)) (ok:okR r):P (lst (rnL r) j) ((enR r)[j]!):=by
 obtain ⟨⟨⟨a1,a2⟩,⟨a3,a4⟩,a5,a6⟩,a7⟩:=ok
 unfold enR
 rw [cl_ok a1 (by omega),cl_ok a3 a4,cl_ok a5 a6]
 match j,hj with
 | 0,_=>exact h0
 | 1,_=>exact h1
 | 2,_=>exact h2
def soD:List SV->List SO->Option Rg
 | [_,.fn _ _ _],[.row _ n _ g _]=>some ⟨n,fun i=>rnD (g i)⟩
 | _,_=>none
def rowS (ver:Nat) (n:Nat) (f:Nat->Rn):SO:= .row ver n 3 (fun i=>lst (rnL (f i))) 77
def spSort:FSpec:=mkSpecM 35 [.arg 0] soD (fun _=>[.osl 0 0,.fn 36 0 (lst [])]) (fun g=>[rowS 0 g.n g.f]) (fun g=>(∀ i,i<g.n->okR (g.f i))/\g.n<=4294967296) (fun _=> .tup 0 (lst [])) (fun g=>[rowS 0 g.n (rI (srt g))])
theorem ok_sort:SpecOK Tryz.prog spSort:=by
 refine specM_hand (enters_of Tryz.func35 (by kernel_rfl) rfl) (fun g hg vals w X E hnm hrep hsz hr=>?_)
 obtain ⟨hok,hn⟩:=hg
 have h0:=hr 0 (by show 0<2; decide)
 have h1:=hr 1 (by show 1<2; decide)
 obtain ⟨v0,v1,rfl⟩:∃ v0 v1,vals = #[v0,v1]:=by
  have hs:vals.size=2:=hsz
  exact ⟨vals[0],vals[1],by
   apply Array.ext
   ·exact hs
   ·intro i hi1 hi2
    have:i=0\/i=1:=by omega
    rcases this with rfl | rfl<;>rfl⟩
 have h0:R w (Xo X E [rowS 0 g.n g.f]) E (.osl 0 0) v0:=h0
 have h1:R w (Xo X E [rowS 0 g.n g.f]) E (.fn 36 0 (lst [])) v1:=h1
 have hv1:v1 = .func (.func 36) #[] #[]:=by
  cases h1 with
  | fn hs hr=>rw [Array.size_eq_zero_iff.1 hs]
 subst hv1
 obtain ⟨us,he⟩:∃ us,E 0=some (.slc 0 v0 us):=by
  cases h0 with
  | osl he _=>exact ⟨_,he⟩
  | oslOld he hl _=>
   have:=(hrep.ok 0 _ he).1
   omega
 obtain ⟨_,xs,hown,hxs⟩:=hrep.ok 0 _ he
 have rtup:∀ (w':World) (X':Nat->Prop) (E':Env),R w' X' E' (.tup 0 (lst [])) (.tuple #[]):=fun _ _ _=> .tup rfl (fun i hi=>absurd hi (Nat.not_lt_zero _))
 rcases hown with ⟨a,rfl,hz,rfl⟩ | ⟨b,cap,cur,rfl,hb,hlc,hcap,hcs,htake,hxl⟩
 ·refine (AnyF.slices_SortFunc_none Tryz.sortrun a 0 (.func (.func 36) #[] #[]) w).mono ?_
  rintro e w' ⟨rfl,rfl⟩
  refine ⟨.tuple #[],E,rfl,row_turn hrep he rfl rfl rfl (Nat.le_refl _) (fun _ _ _=>rfl) ⟨[],.inl ⟨a,rfl,hz,rfl⟩,fun i j hi=>?_⟩,rtup _ _ _⟩
  rw [hz] at hi
  exact absurd hi (Nat.not_lt_zero _)
 ·have hd:g.L.toArray.size=g.n:=by rw [List.size_toArray,Rg.len]
  have gL:∀ i,i<g.n->(g.L.toArray)[i]! = g.f i:=fun i hi=>by
   rw [getElem!_pos _ i (by omega)]
   simp [Rg.L]
  have hcell:∀ j,j<g.n*3->cur[j]?=some ((flatK enR 3 g.L.toArray)[j]!):=fun j hj=>by
   have hij:j / 3*3+j % 3=j:=by omega
   have hi:j / 3<g.n:=by omega
   have hj3:j % 3<3:=by omega
   obtain ⟨_,hR⟩:=hxs (j / 3) (j % 3) hi hj3
   rw [hij] at hR
   have ex:xs.getD j undef=(cur[j]?).getD undef:=by
    rw [<-htake,List.getD_eq_getElem?_getD,List.getElem?_take_of_lt hj]
    simp
   have hlt:j<cur.size:=by rw [hcs]; have:=Nat.mul_le_mul_right 3 hlc; omega
   rw [ex] at hR
   rw [Array.getElem?_eq_getElem hlt] at hR ⊢
   rw [get_flatK _ _ _ _ (by rw [hd]; exact hj),gL _ hi]
   congr 1
   refine rn_cases (P:=fun s u=>R w (Xo X E [rowS 0 g.n g.f]) E0 s cur[j]->cur[j]=u) hj3 ?_ ?_ ?_ (hok _ hi) hR
   ·intro h; exact int_inv h
   ·intro h; exact int_inv h
   ·intro h; exact int_inv h
  have hH:HoldsK enR 3 w b 0 g.L.toArray:=fun j hj=>by
   rw [size_flatK,hd] at hj
   have hc:=hcell j hj
   rw [Nat.zero_add]
   refine ⟨?_,?_⟩
   ·unfold World.cell?
    rw [hb]
    exact hc
   ·unfold World.frozen?
    rw [hb]
    simp
  have hcon:=AnyQ.slices_SortFunc_eq Tryz.sortrun 3 (fun w=>by kernel_rfl) (fun w=>by kernel_rfl) enR (fun _=>rfl) (fun x v hv=>by
   simp only [enR,List.mem_cons,List.not_mem_nil,or_false] at hv
   rcases hv with rfl | rfl | rfl<;>rfl) cfR swo 36 #[] b 0 (cap+1) g.L.toArray w (enters_of Tryz.func36 (by kernel_rfl) rfl) (cmpLays _ _ _ _) hH (lt_of_block hb) (by rw [hd]; omega)
  rw [hd] at hcon
  refine hcon.mono ?_
  rintro e w' ⟨rfl,m,os,rfl⟩
  have es:pdq (ltOf cfR) g.L.toArray 0 g.n (Lib.bitLen g.n) true true=srtA g.L.toArray:=by unfold srtA; rw [hd]
  rw [es]
  have hsd:(srtA g.L.toArray).size=g.n:=by rw [(srtA_spec g.L.toArray).1.1,hd]
  have pc:∀ j,j<g.n*3->(putCells id 0 (flatK enR 3 (srtA g.L.toArray)) cur)[j]?=some ((flatK enR 3 (srtA g.L.toArray))[j]!):=fun j hj=>by
   have hlt:j<cur.size:=by rw [hcs]; have:=Nat.mul_le_mul_right 3 hlc; omega
   unfold putCells
   rw [Array.getElem?_mapIdx,Array.getElem?_eq_getElem hlt]
   simp only [Option.map_some]
   rw [if_pos ⟨Nat.zero_le _,by rw [size_flatK,hsd,Nat.zero_add]; exact hj⟩,Nat.sub_zero]
   rfl
  have psz:(putCells id 0 (flatK enR 3 (srtA g.L.toArray)) cur).size=cur.size:=by unfold putCells; simp
  refine ⟨.tuple #[],E,rfl,row_turn hrep he rfl rfl rfl (sort_size _ _ _ _ _) (fun k hk hne=>sort_other hk (hne b rfl) _ _ _) ⟨(putCells id 0 (flatK enR 3 (srtA g.L.toArray)) cur).toList.take (g.n*3),.inr ⟨b,cap,_,rfl,sort_block hb m _ os,hlc,hcap,by rw [psz,hcs],rfl,?_⟩,fun i j hi hj=>?_⟩,rtup _ _ _⟩
  ·rw [List.length_take,Array.length_toList,psz,hcs]
   have:=Nat.mul_le_mul_right 3 hlc
   omega
  ·have hk:i*3+j<g.n*3:=by omega
   have ex:((putCells id 0 (flatK enR 3 (srtA g.L.toArray)) cur).toList.take (g.n*3)).getD (i*3+j) undef=(enR (rI (srt g) i))[j]!:=by
    rw [List.getD_eq_getElem?_getD,List.getElem?_take_of_lt hk,Array.getElem?_toList,pc _ hk,get_flatK _ _ _ _ (by rw [hsd]; exact hk),show (i*3+j) / 3=i by omega,show (i*3+j) % 3=j by omega]
    have e:(srtA g.L.toArray)[i]! = rI (srt g) i:=by
     unfold rI srt
     rw [getElem!_pos _ i (by omega),List.getD_eq_getElem?_getD,List.getElem?_eq_getElem (by rw [Array.length_toList]; omega)]
     simp
    rw [e]
    rfl
   rw [ex]
   have okd:okR (rI (srt g) i):=by
    have hm:rI (srt g) i∈srt g:=by
     unfold rI
     rw [List.getD_eq_getElem?_getD,List.getElem?_eq_getElem (by rw [srt_len]; exact hi)]
     exact List.getElem_mem _
    have:=(srt_perm g).mem_iff.1 hm
    obtain ⟨k,hk,e⟩:=List.mem_map.1 this
    rw [<-e]
    exact hok k (List.mem_range.1 hk)
   exact rn_cases (P:=fun s u=>oneCell u/\∀ X':Nat->Prop,R (sortWorldK enR 3 w b 0 m (srtA g.L.toArray) os) X' E0 s u) hj ⟨rfl,fun _=> .int⟩ ⟨rfl,fun _=> .int⟩ ⟨rfl,fun _=> .int⟩ okd
end Go.Proofs.YtmhofgchidojoaaGreat.Rgf
namespace Go.Proofs
open Go.Shelf
def Tryz.sortcrs_ren:Go.Shelf.Ren:=⟨fun | 6=>76 | 15=>42 | 14=>88 | 28=>64 | 29=>65 | 20=>95 | 21=>96 | 22=>97 | 23=>98 | 24=>99 | 25=>100 | 26=>101 | 27=>102 | 46=>105 | 47=>90 | 48=>91 | 49=>106 | 50=>107 | 57=>108 | n=>n,fun | 22=>112 | 24=>115 | 25=>133 | 3=>3 | 39=>89 | 0=>0 | 53=>124 | 55=>126 | 4=>4 | 46=>136 | 45=>135 | 50=>140 | 5=>5 | 9=>9 | 66=>145 | 70=>149 | 76=>156 | 77=>157 | n=>n,fun | n=>n⟩
theorem Tryz.sortcrs:Go.Proofs.SlLaysF0.n6 Tryz.prog Tryz.sortcrs_ren:={
  mixed:=by kernel_rfl
  f6:=⟨Tryz.f76.name,by decide,Tryz.func76.trans (congrArg some (by kernel_rfl))⟩
  f14:=⟨Tryz.f88.name,by decide,Tryz.func88.trans (congrArg some (by kernel_rfl))⟩
  f15:=Tryz.func42.trans (congrArg some (by kernel_rfl))
  f20:=⟨Tryz.f95.name,by decide,Tryz.func95.trans (congrArg some (by kernel_rfl))⟩
  f21:=⟨Tryz.f96.name,by decide,Tryz.func96.trans (congrArg some (by kernel_rfl))⟩
  f22:=⟨Tryz.f97.name,by decide,Tryz.func97.trans (congrArg some (by kernel_rfl))⟩
  f23:=⟨Tryz.f98.name,by decide,Tryz.func98.trans (congrArg some (by kernel_rfl))⟩
  f24:=⟨Tryz.f99.name,by decide,Tryz.func99.trans (congrArg some (by kernel_rfl))⟩
  f25:=⟨Tryz.f100.name,by decide,Tryz.func100.trans (congrArg some (by kernel_rfl))⟩
  f26:=⟨Tryz.f101.name,by decide,Tryz.func101.trans (congrArg some (by kernel_rfl))⟩
  f27:=⟨Tryz.f102.name,by decide,Tryz.func102.trans (congrArg some (by kernel_rfl))⟩
  f28:=Tryz.func64.trans (congrArg some (by kernel_rfl))
  f29:=Tryz.func65.trans (congrArg some (by kernel_rfl))
  f46:=⟨Tryz.f105.name,by decide,Tryz.func105.trans (congrArg some (by kernel_rfl))⟩
  f47:=Tryz.func90.trans (congrArg some (by kernel_rfl))
  f48:=Tryz.func91.trans (congrArg some (by kernel_rfl))
  f49:=⟨Tryz.f106.name,by decide,Tryz.func106.trans (congrArg some (by kernel_rfl))⟩
  f50:=⟨Tryz.f107.name,by decide,Tryz.func107.trans (congrArg some (by kernel_rfl))⟩
  f57:=⟨Tryz.f108.name,by decide,Tryz.func108.trans (congrArg some (by kernel_rfl))⟩
  t0:=Tryz.underlying0
  a0:=Tryz.isAgg0
  z0:=Tryz.sizeOf0
  v0:=Tryz.zeroValue0
  t3:=Tryz.underlying3
  a3:=Tryz.isAgg3
  z3:=Tryz.sizeOf3
  v3:=Tryz.zeroValue3
  t4:=Tryz.underlying4
  a4:=Tryz.isAgg4
  z4:=Tryz.sizeOf4
  v4:=Tryz.zeroValue4
  t5:=Tryz.underlying5
  a5:=Tryz.isAgg5
  z5:=Tryz.sizeOf5
  v5:=Tryz.zeroValue5
  t9:=Tryz.underlying9
  a9:=Tryz.isAgg9
  z9:=Tryz.sizeOf9
  v9:=Tryz.zeroValue9
  t22:=Tryz.underlying112
  a22:=Tryz.isAgg112
  z22:=Tryz.sizeOf112
  v22:=Tryz.zeroValue112
  t25:=Tryz.underlying133
  a25:=Tryz.isAgg133
  z25:=Tryz.sizeOf133
  v25:=Tryz.zeroValue133
  t39:=Tryz.underlying89
  a39:=Tryz.isAgg89
  z39:=Tryz.sizeOf89
  v39:=Tryz.zeroValue89
  t45:=Tryz.underlying135
  a45:=Tryz.isAgg135
  z45:=Tryz.sizeOf135
  v45:=Tryz.zeroValue135
  t46:=Tryz.underlying136
  a46:=Tryz.isAgg136
  z46:=Tryz.sizeOf136
  v46:=Tryz.zeroValue136
  t50:=Tryz.underlying140
  a50:=Tryz.isAgg140
  z50:=Tryz.sizeOf140
  v50:=Tryz.zeroValue140
  t53:=Tryz.underlying124
  a53:=Tryz.isAgg124
  z53:=Tryz.sizeOf124
  v53:=Tryz.zeroValue124
  t55:=Tryz.underlying126
  a55:=Tryz.isAgg126
  z55:=Tryz.sizeOf126
  v55:=Tryz.zeroValue126
  t66:=Tryz.underlying145
  a66:=Tryz.isAgg145
  z66:=Tryz.sizeOf145
  v66:=Tryz.zeroValue145
  t70:=Tryz.underlying149
  a70:=Tryz.isAgg149
  z70:=Tryz.sizeOf149
  v70:=Tryz.zeroValue149
  t76:=Tryz.underlying156
  a76:=Tryz.isAgg156
  z76:=Tryz.sizeOf156
  v76:=Tryz.zeroValue156
  t77:=Tryz.underlying157
  a77:=Tryz.isAgg157
  z77:=Tryz.sizeOf157
  v77:=Tryz.zeroValue157 }
end Go.Proofs
set_option linter.unusedSimpArgs false
set_option linter.unusedVariables false
namespace Go.Proofs.YtmhofgchidojoaaGreat.Fld
open Go.Shelf Go.RowKit Go.Lib Go.Sort Sx Num Rgf Fla Flb
structure Cr where
 x:Int
 s:Int
instance:Inhabited Cr:=⟨⟨0,0⟩⟩
def crL (c:Cr):List SV:=[.int .i64 c.x,.int .i64 c.s]
def crD (g:Nat->SV):Cr:=⟨Sx.intOf (g 0),Sx.intOf (g 1)⟩
def cI (L:List Cr) (i:Nat):Cr:=L.getD i ⟨0,0⟩
structure Cg where
 n:Nat
 f:Nat->Cr
def Cg.L (g:Cg):List Cr:=(List.range g.n).map g.f
theorem Cg.len (g:Cg):g.L.length=g.n:=by simp [Cg.L]
theorem nan_walk (x:Int) (W:World):Calls Tryz.prog 73 #[.int .i64 x] W fun e w'=>e = .returned (.bool false)/\w'=W:=by
 go_enter Tryz.func73,Tryz.ntmps73
 go_wp2
 go_ret
 exact ⟨rfl,rfl⟩
theorem com_walk (x y:Int) (W:World):Calls Tryz.prog 56 #[.int .i64 x,.int .i64 y] W fun e w'=>e = .returned (.int .i64 (cmpI x y))/\w'=W:=by
 have hcon:=fun x W=>nan_walk x W
 by_cases h:x<y
 ·have e:cmpI x y = -1:=if_pos h
  rw [e]
  clear e
  go_enter Tryz.func56,Tryz.ntmps56
  go_wp2_with (go_at_call 73; refine (hcon _ _).mono ?_; rintro e w' ⟨rfl,rfl⟩)
  go_ret
  exact ⟨rfl,rfl⟩
 ·by_cases h2:y<x
  ·have e:cmpI x y=1:=by unfold cmpI; rw [if_neg h,if_pos h2]
   rw [e]
   clear e
   go_enter Tryz.func56,Tryz.ntmps56
   go_wp2_with (go_at_call 73; refine (hcon _ _).mono ?_; rintro e w' ⟨rfl,rfl⟩)
   go_ret
   exact ⟨rfl,rfl⟩
  ·have e:cmpI x y=0:=by unfold cmpI; rw [if_neg h,if_neg h2]
   rw [e]
   clear e
   go_enter Tryz.func56,Tryz.ntmps56
   go_wp2_with (go_at_call 73; refine (hcon _ _).mono ?_; rintro e w' ⟨rfl,rfl⟩)
   go_ret
   exact ⟨rfl,rfl⟩
theorem cmp_walk (a0 a1 b0 b1:Int) (W:World) :
  Calls Tryz.prog 77 #[.agg #[.int .i64 a0,.int .i64 a1],.agg #[.int .i64 b0,.int .i64 b1]] W fun e w'=>e = .returned (.int .i64 (cmpI a0 b0))/\∃ q os',w'=grow (W.drewN q) os':=by
 have hcon:=fun W'=>com_walk a0 b0 W'
 generalize cmpI a0 b0=r at hcon ⊢
 go_enter Tryz.func77,Tryz.ntmps77
 go_wp2_with (go_at_call 56; refine (hcon _).mono ?_; rintro e w' ⟨rfl,rfl⟩)
 go_ret
 exact ⟨rfl,0,_,by rw [alloc_eq_grow,alloc_eq_grow,grow_grow]; rfl⟩
def enC (r:Cr):List Value:=[.int .i64 r.x,.int .i64 r.s]
def cfC (x y:Cr):Int:=cmpI x.x y.x
theorem lt_iff (x y:Cr):ltOf cfC x y=true<->x.x<y.x:=by
 unfold ltOf cfC
 rw [decide_eq_true_iff]
 exact cmp_neg
theorem lt_iff' (x y:Cr):ltOf cfC x y=false<->¬ x.x<y.x:=by
 rw [<-lt_iff,Bool.not_eq_true]
theorem swo:SWO (ltOf cfC) where
 irrefl x:=by rw [lt_iff']; omega
 trans x y z h1 h2:=by rw [lt_iff] at *; omega
 ntrans x y z h1 h2:=by rw [lt_iff'] at *; omega
theorem cmpLays (blk off sz:Nat) (w:World):CmpLays Tryz.prog 77 #[] enC 2 cfC blk off sz w:=fun _ _ _ _ x y=>cmp_walk x.x x.s y.x y.s _
def srtA (d:Array Cr):Array Cr:=pdq (ltOf cfC) d 0 d.size (Lib.bitLen d.size) true true
def srt (g:Cg):List Cr:=(srtA g.L.toArray).toList
theorem srtA_spec (d:Array Cr):PermIn 0 d.size d (srtA d)/\SortedIn (ltOf cfC) 0 d.size (srtA d):=
 pdq_sorts (ltOf cfC) swo d 0 d.size (Lib.bitLen d.size) true true (Nat.zero_le _) (Nat.le_refl _) (Or.inl rfl)
theorem srt_len (g:Cg):(srt g).length=g.n:=by
 have:=(srtA_spec g.L.toArray).1.1
 unfold srt
 rw [Array.length_toList,this,List.size_toArray,Cg.len]
theorem srt_perm (g:Cg):(srt g).Perm g.L:=by
 have h:=(srtA_spec g.L.toArray).1
 have h2:=h.2.2
 have e1:((srtA g.L.toArray).extract 0 g.L.toArray.size)=srtA g.L.toArray:=by rw [<-h.1]; simp
 have e2:(g.L.toArray.extract 0 g.L.toArray.size)=g.L.toArray:=by simp
 rw [e1,e2] at h2
 unfold srt
 simpa using h2
theorem srt_sorted (g:Cg) {i j:Nat}(hij:i<j) (hj:j<g.n):(cI (srt g) i).x<=(cI (srt g) j).x:=by
 have h:=(srtA_spec g.L.toArray).2 i j (Nat.zero_le _) hij (by rw [List.size_toArray,Cg.len]; exact hj)
 have hs:(srtA g.L.toArray).size=g.n:=by rw [(srtA_spec g.L.toArray).1.1,List.size_toArray,Cg.len]
 have e:∀ k,k<g.n->cI (srt g) k=(srtA g.L.toArray)[k]!:=fun k hk=>by
  unfold cI srt
  rw [getElem!_pos _ k (by omega),List.getD_eq_getElem?_getD,List.getElem?_eq_getElem (by rw [Array.length_toList]; omega)]
  simp
 rw [e i (by omega),e j hj]
 have:=(lt_iff' _ _).1 h
 omega
theorem row_turn {w w':World}{X:Fr}{E:Env}{n:Nat}{g g':Nat->Nat->SV}{T:TypeId}{v:Value}{us:Nat->Option Nat}(h:Rep w X [.row 0 n 2 g T] E w) (he:E 0=some (.slc 0 v us))
  (hos:w'.os=w.os) (htp:w'.tape=w.tape) (hout:w'.output=w.output) (hsz:w.heap.size<=w'.heap.size)
  (hblk:∀ k,k<w.heap.size->(∀ b,holds (.slc 0 v us) (.row 0 n 2 g T) b->k≠b)->w'.heap[k]?=w.heap[k]?)
  (hok:∃ xs,OwnsR w' T 2 v n xs/\∀ i j,i<n->j<2->oneCell (xs.getD (i*2+j) undef)/\∀ X',R w' X' E0 (g' i j) (xs.getD (i*2+j) undef)) :
  Rep w X [.row 0 n 2 g' T] E w':=by
 have hd:∀ k e,E k=some e->k=0/\e = .slc 0 v us:=fun k e hk=>by
  have h1:=h.dom k e hk
  have h0:k=0:=by simp at h1; omega
  subst h0
  rw [he] at hk
  exact ⟨rfl,(Option.some.inj hk).symm⟩
 have hh:∀ b,holds (.slc 0 v us) (.row 0 n 2 g' T) b->holds (.slc 0 v us) (.row 0 n 2 g T) b:=fun b hb=>hb
 refine ⟨⟨hos,htp,hout,hsz,fun k hk hdk=>hblk k hk (fun b hb hkb=>?_)⟩,h.x0,h.nm,h.dom,fun k e hk=>?_,fun k e b hk hb=>?_,fun k k' e e' b hk hk' hb hb'=>?_⟩
 ·rcases h.low 0 _ b he hb with h1 | h1
  ·omega
  ·exact hdk (hkb▸h1)
 ·obtain ⟨rfl,rfl⟩:=hd k e hk
  obtain ⟨xs,h1,h2⟩:=hok
  exact ⟨rfl,xs,h1,fun i j hi hj=>⟨(h2 i j hi hj).1,(h2 i j hi hj).2 _⟩⟩
 ·obtain ⟨rfl,rfl⟩:=hd k e hk
  exact h.low 0 _ b he (hh b hb)
 ·rw [(hd k e hk).1,(hd k' e' hk').1]
theorem sort_block {w:World}{b:Nat}{cur:Array Value}{T:TypeId}(hb:w.heap[b]?=some (.cells cur T (0,0))) (m:Nat) (d:Array Cr) (os:Array Obj) :
  (sortWorldK enC 2 w b 0 m d os).heap[b]?=some (.cells (putCells id 0 (flatK enC 2 d) cur) T (0,0)):=by
 have hlt:b<w.heap.size:=lt_of_block hb
 show ((w.heap.modify b (onCells (putCells id 0 (flatK enC 2 d))))++os)[b]?=_
 rw [Array.getElem?_append_left (by rw [Array.size_modify]; exact hlt),Array.getElem?_modify,if_pos rfl,hb]
 rfl
theorem sort_other {w:World}{b k:Nat}(hk:k<w.heap.size) (hne:k≠b) (m:Nat) (d:Array Cr) (os:Array Obj):(sortWorldK enC 2 w b 0 m d os).heap[k]?=w.heap[k]?:=by
 show ((w.heap.modify b (onCells (putCells id 0 (flatK enC 2 d))))++os)[k]?=_
 rw [Array.getElem?_append_left (by rw [Array.size_modify]; exact hk),Array.getElem?_modify,if_neg (Ne.symm hne)]
theorem sort_size (w:World) (b m:Nat) (d:Array Cr) (os:Array Obj):w.heap.size<=(sortWorldK enC 2 w b 0 m d os).heap.size:=by
 show _<=((w.heap.modify b (onCells (putCells id 0 (flatK enC 2 d))))++os).size
 rw [Array.size_append,Array.size_modify]
 exact Nat.le_add_right _ _
theorem rn_cases {r:Cr}{j:Nat}(hj:j<2) (P:SV->Value->Prop) (h0:P (.int .i64 r.x) (.int .i64 r.x)) (h1:P (.int .i64 r.s) (.int .i64 r.s)):P (lst (crL r) j) ((enC r)[j]!):=by
 unfold enC
 match j,hj with
 | 0,_=>exact h0
 | 1,_=>exact h1
def soD:List SV->List SO->Option Cg
 | [_,.fn _ _ _],[.row _ n _ g _]=>some ⟨n,fun i=>crD (g i)⟩
 | _,_=>none
def rowC (ver:Nat) (n:Nat) (f:Nat->Cr):SO:= .row ver n 2 (fun i=>lst (crL (f i))) 115
def spSort:FSpec:=mkSpecM 76 [.arg 0] soD (fun _=>[.osl 0 0,.fn 77 0 (lst [])]) (fun g=>[rowC 0 g.n g.f]) (fun g=>g.n<=4294967296) (fun _=> .tup 0 (lst [])) (fun g=>[rowC 0 g.n (cI (srt g))])
theorem ok_sort:SpecOK Tryz.prog spSort:=by
 refine specM_hand (enters_of Tryz.func76 (by kernel_rfl) rfl) (fun g hg vals w X E hnm hrep hsz hr=>?_)
 have hn:g.n<=4294967296:=hg
 have h0:=hr 0 (by show 0<2; decide)
 have h1:=hr 1 (by show 1<2; decide)
 obtain ⟨v0,v1,rfl⟩:∃ v0 v1,vals = #[v0,v1]:=by
  have hs:vals.size=2:=hsz
  exact ⟨vals[0],vals[1],by
   apply Array.ext
   ·exact hs
   ·intro i hi1 hi2
    have:i=0\/i=1:=by omega
    rcases this with rfl | rfl<;>rfl⟩
 have h0:R w (Xo X E [rowC 0 g.n g.f]) E (.osl 0 0) v0:=h0
 have h1:R w (Xo X E [rowC 0 g.n g.f]) E (.fn 77 0 (lst [])) v1:=h1
 have hv1:v1 = .func (.func 77) #[] #[]:=by
  cases h1 with
  | fn hs hr=>rw [Array.size_eq_zero_iff.1 hs]
 subst hv1
 obtain ⟨us,he⟩:∃ us,E 0=some (.slc 0 v0 us):=by
  cases h0 with
  | osl he _=>exact ⟨_,he⟩
  | oslOld he hl _=>
   have:=(hrep.ok 0 _ he).1
   omega
 obtain ⟨_,xs,hown,hxs⟩:=hrep.ok 0 _ he
 have rtup:∀ (w':World) (X':Nat->Prop) (E':Env),R w' X' E' (.tup 0 (lst [])) (.tuple #[]):=fun _ _ _=> .tup rfl (fun i hi=>absurd hi (Nat.not_lt_zero _))
 rcases hown with ⟨a,rfl,hz,rfl⟩ | ⟨b,cap,cur,rfl,hb,hlc,hcap,hcs,htake,hxl⟩
 ·refine (AnyF.slices_SortFunc_none Tryz.sortcrs a 0 (.func (.func 77) #[] #[]) w).mono ?_
  rintro e w' ⟨rfl,rfl⟩
  refine ⟨.tuple #[],E,rfl,row_turn hrep he rfl rfl rfl (Nat.le_refl _) (fun _ _ _=>rfl) ⟨[],.inl ⟨a,rfl,hz,rfl⟩,fun i j hi=>?_⟩,rtup _ _ _⟩
  rw [hz] at hi
  exact absurd hi (Nat.not_lt_zero _)
 ·have hd:g.L.toArray.size=g.n:=by rw [List.size_toArray,Cg.len]
  have gL:∀ i,i<g.n->(g.L.toArray)[i]! = g.f i:=fun i hi=>by
   rw [getElem!_pos _ i (by omega)]
   simp [Cg.L]
  have hcell:∀ j,j<g.n*2->cur[j]?=some ((flatK enC 2 g.L.toArray)[j]!):=fun j hj=>by
   have hij:j / 2*2+j % 2=j:=by omega
   have hi:j / 2<g.n:=by omega
   have hj2:j % 2<2:=by omega
   obtain ⟨_,hR⟩:=hxs (j / 2) (j % 2) hi hj2
   rw [hij] at hR
   have ex:xs.getD j undef=(cur[j]?).getD undef:=by
    rw [<-htake,List.getD_eq_getElem?_getD,List.getElem?_take_of_lt hj]
    simp
   have hlt:j<cur.size:=by rw [hcs]; have:=Nat.mul_le_mul_right 2 hlc; omega
   rw [ex] at hR
   rw [Array.getElem?_eq_getElem hlt] at hR ⊢
   rw [get_flatK _ _ _ _ (by rw [hd]; exact hj),gL _ hi]
   congr 1
   refine rn_cases (P:=fun s u=>R w (Xo X E [rowC 0 g.n g.f]) E0 s cur[j]->cur[j]=u) hj2 ?_ ?_ hR
   ·intro h; exact int_inv h
   ·intro h; exact int_inv h
  have hH:HoldsK enC 2 w b 0 g.L.toArray:=fun j hj=>by
   rw [size_flatK,hd] at hj
   have hc:=hcell j hj
   rw [Nat.zero_add]
   refine ⟨?_,?_⟩
   ·unfold World.cell?
    rw [hb]
    exact hc
   ·unfold World.frozen?
    rw [hb]
    simp
  have hcon:=AnyQ.slices_SortFunc_eq Tryz.sortcrs 2 (fun w=>by kernel_rfl) (fun w=>by kernel_rfl) enC (fun _=>rfl) (fun x v hv=>by
   simp only [enC,List.mem_cons,List.not_mem_nil,or_false] at hv
   rcases hv with rfl | rfl<;>rfl) cfC swo 77 #[] b 0 (cap+1) g.L.toArray w (enters_of Tryz.func77 (by kernel_rfl) rfl) (cmpLays _ _ _ _) hH (lt_of_block hb) (by rw [hd]; omega)
  rw [hd] at hcon
  refine hcon.mono ?_
  rintro e w' ⟨rfl,m,os,rfl⟩
  have es:pdq (ltOf cfC) g.L.toArray 0 g.n (Lib.bitLen g.n) true true=srtA g.L.toArray:=by unfold srtA; rw [hd]
  rw [es]
  have hsd:(srtA g.L.toArray).size=g.n:=by rw [(srtA_spec g.L.toArray).1.1,hd]
  have pc:∀ j,j<g.n*2->(putCells id 0 (flatK enC 2 (srtA g.L.toArray)) cur)[j]?=some ((flatK enC 2 (srtA g.L.toArray))[j]!):=fun j hj=>by
   have hlt:j<cur.size:=by rw [hcs]; have:=Nat.mul_le_mul_right 2 hlc; omega
   unfold putCells
   rw [Array.getElem?_mapIdx,Array.getElem?_eq_getElem hlt]
   simp only [Option.map_some]
   rw [if_pos ⟨Nat.zero_le _,by rw [size_flatK,hsd,Nat.zero_add]; exact hj⟩,Nat.sub_zero]
   rfl
  have psz:(putCells id 0 (flatK enC 2 (srtA g.L.toArray)) cur).size=cur.size:=by unfold putCells; simp
  refine ⟨.tuple #[],E,rfl,row_turn hrep he rfl rfl rfl (sort_size _ _ _ _ _) (fun k hk hne=>sort_other hk (hne b rfl) _ _ _) ⟨(putCells id 0 (flatK enC 2 (srtA g.L.toArray)) cur).toList.take (g.n*2),.inr ⟨b,cap,_,rfl,sort_block hb m _ os,hlc,hcap,by rw [psz,hcs],rfl,?_⟩,fun i j hi hj=>?_⟩,rtup _ _ _⟩
  ·rw [List.length_take,Array.length_toList,psz,hcs]
   have:=Nat.mul_le_mul_right 2 hlc
   omega
  ·have hk:i*2+j<g.n*2:=by omega
   have ex:((putCells id 0 (flatK enC 2 (srtA g.L.toArray)) cur).toList.take (g.n*2)).getD (i*2+j) undef=(enC (cI (srt g) i))[j]!:=by
    rw [List.getD_eq_getElem?_getD,List.getElem?_take_of_lt hk,Array.getElem?_toList,pc _ hk,get_flatK _ _ _ _ (by rw [hsd]; exact hk),show (i*2+j) / 2=i by omega,show (i*2+j) % 2=j by omega]
    have e:(srtA g.L.toArray)[i]! = cI (srt g) i:=by
     unfold cI srt
     rw [getElem!_pos _ i (by omega),List.getD_eq_getElem?_getD,List.getElem?_eq_getElem (by rw [Array.length_toList]; omega)]
     simp
    rw [e]
    rfl
   rw [ex]
   exact rn_cases (P:=fun s u=>oneCell u/\∀ X':Nat->Prop,R (sortWorldK enC 2 w b 0 m (srtA g.L.toArray) os) X' E0 s u) hj ⟨rfl,fun _=> .int⟩ ⟨rfl,fun _=> .int⟩
end Go.Proofs.YtmhofgchidojoaaGreat.Fld
set_option linter.unusedSimpArgs false
set_option linter.unusedVariables false
namespace Go.Proofs.YtmhofgchidojoaaGreat.Fle
open Go.RowKit Sx Num Aff Con Fla Flb Flc Fld
set_option maxRecDepth 100000
structure CrG where
 n:Nat
 f:Nat->Ed
 y:Int
def cgD:List SV->List SO->Option CrG
 | [_,.int _ y],[.row _ n _ g _]=>some ⟨n,fun i=>edD (g i),y⟩
 | _,_=>none
def Ed.on (e:Ed) (y:Int):Bool:=decide (e.y<=y/\y<e.en)
def cro (f:Nat->Ed) (y:Int):Nat->List Cr
 | 0=>[]
 | i+1=>cro f y i++if Ed.on (f i) y=true then [⟨(f i).first y,(f i).s⟩] else []
def crs (f:Nat->Ed) (y:Int) (n:Nat):List Cr:=srt ⟨(cro f y n).length,cI (cro f y n)⟩
theorem cro_len (f:Nat->Ed) (y:Int):∀ i,(cro f y i).length<=i
 | 0=>Nat.le_refl _
 | i+1=>by
  have:=cro_len f y i
  simp only [cro,List.length_append]
  split<;>simp<;>omega
theorem cI_app (L:List Cr) (r:Cr) (i:Nat) (h:i<L.length+1):cI (L++[r]) i=if i<L.length then cI L i else r:=by
 unfold cI
 by_cases hi:i<L.length
 ·rw [if_pos hi,List.getD_eq_getElem?_getD,List.getElem?_append_left hi,List.getD_eq_getElem?_getD]
 ·rw [if_neg hi,show i=L.length by omega]
  simp
def crInv (g:CrG):Inv:=⟨Nat,fun i=>i<=g.n,fun i=>⟨[(1,.int .i64 g.y),(5,.osl 1 0),(8,.osl 0 0),(9,.int .i64 g.n),(10,.int .i64 i)],[edRow 0 g.n g.f,rowC 0 (cro g.f g.y i).length (cI (cro g.f g.y i))]⟩,fun i=>g.n-i⟩
def spCross:FSpec:=mkSpecM 59 [.arg 0] cgD (fun g=>[.osl 0 0,.int .i64 g.y]) (fun g=>[edRow 0 g.n g.f]) (fun g=>(∀ i,i<g.n->(g.f i).ok)/\g.n<=4294967296/\ -8192<=g.y/\g.y<=8192)
 (fun g=> .sl (crs g.f g.y g.n).length 2 (fun i=>lst (crL (cI (crs g.f g.y g.n) i)))) (fun g=>[edRow 0 g.n g.f])
theorem ok_cross:SpecOK Tryz.prog spCross:=by
 refine spec_soundM (specs:=[spFirst,Fld.spSort]) (all_ok (⟨ok_first,Fld.ok_sort,trivial⟩)) (eqs:=[]) (fun _ _ h=>(List.not_mem_nil h).elim) Aff.mixed Tryz.func59 rfl (by kernel_rfl) (fun _ _=>by kernel_rfl) (fun g=>(⟨[(3,.inv (crInv g))],[(2,[.own 5 115 2])]⟩:Ann)) false (fun g=>Nat.le_of_ble_eq_true (by kernel_rfl)) ?_
 rintro g hg
 refine vc_of (B:=let A:=Sx.Ask;let z10:=(crs g.f g.y g.n);let z8:=(crInv g);let z1:=(IntKind.i64=IntKind.i64);let z6:=(A z1/\A (g.y=g.y));let z5:=(A z1/\A ((↑g.n:Int)=(↑g.n:Int)));let z0:=(A (g.n=g.n)/\∀ i:Nat,i<g.n->(((((True/\A z1/\A ((g.f i).x=(g.f i).x))/\A z1/\A ((g.f i).y=(g.f i).y))/\A z1/\A ((g.f i).en=(g.f i).en))/\A z1/\A ((g.f i).dx=(g.f i).dx))/\A z1/\A ((g.f i).dy=(g.f i).dy))/\A z1/\A ((g.f i).s=(g.f i).s));True/\True/\True/\True/\True/\(∃ g_1:Nat,A (z8.pre g_1)/\True/\(z6/\True/\True/\z5/\(A z1/\A ((0:Int)=(↑g_1:Int)))/\True)/\z0/\(A ((0:Nat)=(cro g.f g.y g_1).length)/\∀ i:Nat,i<(cro g.f g.y g_1).length->(True/\False)/\False)/\True)/\∀ g_1:Nat,let z7:=(↑g_1:Int);let z4:=((-9223372036854775808:Int)<=z7+(1:Int)/\z7+(1:Int)<=(9223372036854775807:Int));let z3:=(g.f z7.toNat);let z2:=(cro g.f g.y g_1); z8.pre g_1->True/\Sx.Br (decide (z7<(↑g.n:Int))) (A ((0:Int)<=z7/\z7<(↑g.n:Int))/\A (z7.toNat<g.n)/\True/\True/\True/\True/\True/\True/\True/\Sx.Br (decide (z3.y<=g.y)) (True/\True/\True/\True/\True/\Sx.Br (decide (g.y<z3.en)) (True/\True/\True/\((((((((True/\A z1/\A (z3.x=z3.x))/\A z1/\A (z3.y=z3.y))/\A z1/\A (z3.en=z3.en))/\A z1/\A (z3.dx=z3.dx))/\A z1/\A (z3.dy=z3.dy))/\A z1/\A (z3.s=z3.s))/\z6/\True)/\A (z3.ok/\(-32767:Int)<=g.y/\g.y<=(32767:Int)))/\True/\True/\True/\True/\A (z2.length+(1:Nat)<=(9223372036854775807:Nat)/\(z2.length+(1:Nat))*(16:Nat)<=(140737488355328:Nat))/\True/\A z4/\True/\∃ (g':Nat),let z11:=(cro g.f g.y g'); A (z8.pre g')/\True/\((z6/\True/\True/\z5/\(A z1/\A (z7+(1:Int)=(↑g':Int)))/\True)/\z0/\(A (z2.length+(1:Nat)=z11.length)/\∀ i:Nat,i<z11.length->(True/\A z1/\A ((bif decide (i<z2.length) then (Fld.cI z2 i).x else z3.first g.y)=(Fld.cI z11 i).x))/\A z1/\A ((bif decide (i<z2.length) then (Fld.cI z2 i).s else z3.s)=(Fld.cI z11 i).s))/\True)/\A (z8.meas g'<z8.meas g_1)) (A z4/\True/\∃ (g':Nat),let z12:=(cro g.f g.y g'); A (z8.pre g')/\True/\((z6/\True/\True/\z5/\(A z1/\A (z7+(1:Int)=(↑g':Int)))/\True)/\z0/\(A (z2.length=z12.length)/\∀ i:Nat,i<z12.length->(True/\A z1/\A ((Fld.cI z2 i).x=(Fld.cI z12 i).x))/\A z1/\A ((Fld.cI z2 i).s=(Fld.cI z12 i).s))/\True)/\A (z8.meas g'<z8.meas g_1))) (True/\A z4/\True/\∃ (g':Nat),let z13:=(cro g.f g.y g'); A (z8.pre g')/\True/\((z6/\True/\True/\z5/\(A z1/\A (z7+(1:Int)=(↑g':Int)))/\True)/\z0/\(A (z2.length=z13.length)/\∀ i:Nat,i<z13.length->(True/\A z1/\A ((Fld.cI z2 i).x=(Fld.cI z13 i).x))/\A z1/\A ((Fld.cI z2 i).s=(Fld.cI z13 i).s))/\True)/\A (z8.meas g'<z8.meas g_1))) (True/\((True/\(True/\(A ((77:Nat)=(77:Go.FuncId))/\True)/\True)/\(A (z2.length=z2.length)/\∀ i:Nat,i<z2.length->(True/\A z1/\A ((Fld.cI z2 i).x=(Fld.cI z2 i).x))/\A z1/\A ((Fld.cI z2 i).s=(Fld.cI z2 i).s))/\True)/\A (z2.length<=(4294967296:Nat)))/\True/\True/\True/\True/\((A (z2.length=z10.length)/\∀ i:Nat,let z9:=(Fld.cI (Fld.srt (Fld.Cg.mk z2.length (Fld.cI z2))) i); i<z10.length->(True/\A z1/\A (z9.x=(Fld.cI z10 i).x))/\A z1/\A (z9.s=(Fld.cI z10 i).s))/\True)/\z0/\True)) (by kernel_rfl) ?_
 simp only [ask_iff,br_iff,eq_self,true_and,and_true,implies_true,forall_const,decide_eq_true_eq,decide_eq_false_iff_not,ne_eq,Nat.mul_one,Nat.add_zero,Nat.zero_add,Int.toNat_natCast,and_self,List.append_assoc,false_and,and_false]
 obtain ⟨hok,hn,hy⟩:=hg
 refine ⟨⟨0,Nat.zero_le _,rfl,rfl,fun i hi=>absurd hi (Nat.not_lt_zero _)⟩,fun i hi=>?_⟩
 have hi:i<=g.n:=hi
 have hl:=cro_len g.f g.y i
 refine ⟨fun hlt=>?_,fun hge=>?_⟩
 ·have hpre:(crInv g).pre (i+1):=by show i+1<=g.n; omega
  have hmeas:(crInv g).meas (i+1)<(crInv g).meas i:=by show g.n-(i+1)<g.n-i; omega
  have off:Ed.on (g.f i) g.y=false->cro g.f g.y (i+1)=cro g.f g.y i:=fun h=>by
   show _++(if _ then _ else _)=_
   rw [h]
   exact List.append_nil _
  refine ⟨by omega,by omega,fun c1=>⟨fun c2=>?_,fun c2=>?_⟩,fun c1=>?_⟩
  ·have e:cro g.f g.y (i+1)=cro g.f g.y i++[⟨(g.f i).first g.y,(g.f i).s⟩]:=by
    show _++(if _ then _ else _)=_
    rw [if_pos (show Ed.on (g.f i) g.y=true from decide_eq_true ⟨c1,c2⟩)]
   refine ⟨⟨hok i (by omega),by omega⟩,by omega,by omega,i+1,hpre,⟨rfl,by rw [e]; simp,fun k hk=>?_⟩,hmeas⟩
   rw [e] at hk ⊢
   rw [cI_app _ _ _ (by simpa using hk)]
   by_cases c:k<(cro g.f g.y i).length
   ·rw [decide_eq_true c,if_pos c]; exact ⟨rfl,rfl⟩
   ·rw [decide_eq_false c,if_neg c]; exact ⟨rfl,rfl⟩
  ·have e:=off (decide_eq_false fun h=>c2 h.2)
   exact ⟨by omega,i+1,hpre,⟨rfl,by rw [e],fun k _=>by rw [e]; exact ⟨rfl,rfl⟩⟩,hmeas⟩
  ·have e:=off (decide_eq_false fun h=>c1 h.1)
   exact ⟨by omega,i+1,hpre,⟨rfl,by rw [e],fun k _=>by rw [e]; exact ⟨rfl,rfl⟩⟩,hmeas⟩
 ·obtain rfl:i=g.n:=by omega
  exact ⟨by omega,(srt_len ⟨(cro g.f g.y g.n).length,cI (cro g.f g.y g.n)⟩).symm,fun k _=>⟨rfl,rfl⟩⟩
end Go.Proofs.YtmhofgchidojoaaGreat.Fle
set_option linter.unusedSimpArgs false
set_option linter.unusedVariables false
namespace Go.Proofs.YtmhofgchidojoaaGreat.Flp
open Rga Rgl Fla Flb Flc Fld Fle
def wE (f:Nat->Ed) (n:Nat) (y x:Int):Int:=sumN (fun k=>if Ed.on (f k) y=true/\(f k).first y<=x then (f k).s else 0) n
def tot (f:Nat->Ed) (n:Nat) (y:Int):Int:=sumN (fun k=>if Ed.on (f k) y=true then (f k).s else 0) n
def chi (ins:Int->Bool) (f:Nat->Ed) (n:Nat) (y x:Int):Bool:=decide ((-8192<=y/\y<8192)/\ -8192<=x/\x<8192)&&ins (wE f n y x)
def act (f:Nat->Ed) (y:Int) (i:Nat):List Ed:=((List.range i).map f).filter fun e=>decide (y<e.en)
def pre (C:List Cr) (j:Nat):Int:=sumN (fun k=>(cI C k).s) j
def ws:List Cr->Int->Int
 | [],_=>0
 | c::r,x=>(if c.x<=x then c.s else 0)+ws r x
def wt:List Cr->Int
 | []=>0
 | c::r=>c.s+wt r
theorem ws_perm {C D:List Cr}(h:C.Perm D) (x:Int):ws C x=ws D x:=by
 induction h with
 | nil=>rfl
 | cons a _ ih=>simp only [ws,ih]
 | swap a b l=>simp only [ws]; omega
 | trans _ _ h1 h2=>rw [h1,h2]
theorem wt_perm {C D:List Cr}(h:C.Perm D):wt C=wt D:=by
 induction h with
 | nil=>rfl
 | cons a _ ih=>simp only [wt,ih]
 | swap a b l=>simp only [wt]; omega
 | trans _ _ h1 h2=>rw [h1,h2]
theorem ws_app (C D:List Cr) (x:Int):ws (C++D) x=ws C x+ws D x:=by
 induction C with
 | nil=>simp [ws]
 | cons c C ih=>simp only [List.cons_append,ws,ih]; omega
theorem wt_app (C D:List Cr):wt (C++D)=wt C+wt D:=by
 induction C with
 | nil=>simp [wt]
 | cons c C ih=>simp only [List.cons_append,wt,ih]; omega
theorem sumN_head (φ:Nat->Int):∀ n,sumN φ (n+1)=φ 0+sumN (fun k=>φ (k+1)) n
 | 0=>by simp [sumN]
 | n+1=>by
  show sumN φ (n+1)+φ (n+1)=φ 0+(sumN (fun k=>φ (k+1)) n+φ (n+1))
  rw [sumN_head φ n]
  omega
theorem ws_sum (x:Int):∀ C:List Cr,ws C x=sumN (fun k=>if (cI C k).x<=x then (cI C k).s else 0) C.length
 | []=>rfl
 | c::C=>by
  rw [List.length_cons,sumN_head]
  show _=(if c.x<=x then c.s else 0)+sumN (fun k=>if (cI C k).x<=x then (cI C k).s else 0) C.length
  rw [<-ws_sum x C]
  rfl
theorem wt_sum:∀ C:List Cr,wt C=pre C C.length
 | []=>rfl
 | c::C=>by
  show c.s+wt C=sumN (fun k=>(cI (c::C) k).s) (C.length+1)
  rw [sumN_head,wt_sum C]
  rfl
theorem ws_cro (f:Nat->Ed) (y x:Int):∀ n,ws (cro f y n) x=wE f n y x
 | 0=>rfl
 | n+1=>by
  show ws (cro f y n++_) x=wE f n y x+(if Ed.on (f n) y=true/\(f n).first y<=x then (f n).s else 0)
  rw [ws_app,ws_cro f y x n]
  congr 1
  by_cases h:Ed.on (f n) y=true
  ·rw [if_pos h]
   by_cases h2:(f n).first y<=x
   ·rw [if_pos ⟨h,h2⟩]; simp [ws,h2]
   ·rw [if_neg (fun hc=>h2 hc.2)]; simp [ws,h2]
  ·rw [if_neg h,if_neg (fun hc=>h hc.1)]; rfl
theorem wt_cro (f:Nat->Ed) (y:Int):∀ n,wt (cro f y n)=tot f n y
 | 0=>rfl
 | n+1=>by
  show wt (cro f y n++_)=tot f n y+(if Ed.on (f n) y=true then (f n).s else 0)
  rw [wt_app,wt_cro f y n]
  congr 1
  by_cases h:Ed.on (f n) y=true
  ·rw [if_pos h,if_pos h]; simp [wt]
  ·rw [if_neg h,if_neg h]; rfl
theorem map_cI (L:List Cr):(⟨L.length,cI L⟩:Cg).L=L:=by
 unfold Cg.L
 apply List.ext_getElem
 ·simp
 ·intro i h1 h2
  simp [cI,List.getD_eq_getElem?_getD,List.getElem?_eq_getElem h2]
theorem crs_perm (f:Nat->Ed) (y:Int) (n:Nat):(crs f y n).Perm (cro f y n):=by
 have:=srt_perm ⟨(cro f y n).length,cI (cro f y n)⟩
 rw [map_cI] at this
 exact this
theorem crs_len (f:Nat->Ed) (y:Int) (n:Nat):(crs f y n).length=(cro f y n).length:=(crs_perm f y n).length_eq
theorem crs_sorted (f:Nat->Ed) (y:Int) (n:Nat) {i j:Nat}(hij:i<j) (hj:j<(crs f y n).length):(cI (crs f y n) i).x<=(cI (crs f y n) j).x:=
 Fld.srt_sorted ⟨(cro f y n).length,cI (cro f y n)⟩ hij (by rw [crs_len] at hj; exact hj)
def sl (φ:Ed->Int):List Ed->Int
 | []=>0
 | e::r=>φ e+sl φ r
theorem sl_app (φ:Ed->Int) (L M:List Ed):sl φ (L++M)=sl φ L+sl φ M:=by
 induction L with
 | nil=>simp [sl]
 | cons e L ih=>simp only [List.cons_append,sl,ih]; omega
theorem sl_eI (φ:Ed->Int):∀ L:List Ed,sumN (fun k=>φ (eI L k)) L.length=sl φ L
 | []=>rfl
 | e::L=>by
  rw [List.length_cons,sumN_head]
  show φ e+sumN (fun k=>φ (eI L k)) L.length=φ e+sl φ L
  rw [sl_eI φ L]
theorem sl_filter (φ:Ed->Int) (p:Ed->Bool) (h:∀ e,p e=false->φ e=0) (L:List Ed):sl φ (L.filter p)=sl φ L:=by
 induction L with
 | nil=>rfl
 | cons e L ih=>
  by_cases hp:p e=true
  ·rw [List.filter_cons_of_pos hp]; simp only [sl,ih]
  ·rw [List.filter_cons_of_neg hp]
   simp only [sl,ih]
   rw [h e (by simpa using hp)]
   omega
theorem sl_map (φ:Ed->Int) (f:Nat->Ed):∀ i,sl φ ((List.range i).map f)=sumN (fun k=>φ (f k)) i
 | 0=>rfl
 | i+1=>by
  rw [List.range_succ,List.map_append,sl_app,sl_map φ f i]
  show _+(φ (f i)+0)=_+_
  rw [Int.add_zero]
theorem sumN_zero {φ:Nat->Int}{i:Nat}:∀ {n:Nat},i<=n->(∀ k,i<=k->k<n->φ k=0)->sumN φ n=sumN φ i
 | 0,h,_=>by rw [Nat.le_zero.1 h]
 | n+1,h,hz=>by
  by_cases hi:i=n+1
  ·rw [hi]
  ·show sumN φ n+φ n=_
   rw [sumN_zero (n:=n) (by omega) (fun k h1 h2=>hz k h1 (by omega)),hz n (by omega) (by omega)]
   omega
theorem act_sum (g:SoG) {y:Int}{i:Nat}(hi:i<=g.n) (up:∀ k,i<=k->k<g.n->y<(srtE g k).y) (φ:Ed->Int) (h:∀ e,Ed.on e y=false->φ e=0) :
  sumN (fun k=>φ (eI (act (srtE g) y i) k)) (act (srtE g) y i).length=sumN (fun k=>φ (g.f k)) g.n:=by
 rw [sl_eI,act,sl_filter φ _ (fun e he=>h e (decide_eq_false fun hc=>by have:=of_decide_eq_false he; omega)),sl_map,<-sum_srt g φ]
 refine (sumN_zero hi fun k h1 h2=>h _ (decide_eq_false fun hc=>?_)).symm
 have:=up k h1 h2
 omega
def row (g:SoG) (y:Int) (i:Nat):List Cr:=crs (eI (act (srtE g) y i)) y (act (srtE g) y i).length
theorem row_ws (g:SoG) {y:Int}{i:Nat}(hi:i<=g.n) (up:∀ k,i<=k->k<g.n->y<(srtE g k).y) (x:Int):ws (row g y i) x=wE g.f g.n y x:=by
 unfold row
 rw [ws_perm (crs_perm _ _ _),ws_cro]
 exact act_sum g hi up (fun e=>if Ed.on e y=true/\e.first y<=x then e.s else 0) (fun e he=>if_neg (by rw [he]; simp))
theorem row_wt (g:SoG) {y:Int}{i:Nat}(hi:i<=g.n) (up:∀ k,i<=k->k<g.n->y<(srtE g k).y):wt (row g y i)=tot g.f g.n y:=by
 unfold row
 rw [wt_perm (crs_perm _ _ _),wt_cro]
 exact act_sum g hi up (fun e=>if Ed.on e y=true then e.s else 0) (fun e he=>if_neg (by rw [he]; simp))
theorem seg {C:List Cr}(srt:∀ i j,i<j->j<C.length->(cI C i).x<=(cI C j).x) {j:Nat}{x:Int}(hj:j<=C.length) (h1:0<j->(cI C (j-1)).x<=x) (h2:j<C.length->x<(cI C j).x):ws C x=pre C j:=by
 rw [ws_sum,sumN_zero hj (fun k hk hkn=>if_neg (by
  have:=h2 (by omega)
  by_cases c:k=j
  ·rw [c]; omega
  ·have:=srt j k (by omega) hkn
   omega))]
 refine sumN_congr fun k hk=>if_pos ?_
 have:=h1 (by omega)
 by_cases c:k=j-1
 ·rw [c]; exact this
 ·have:=srt k (j-1) (by omega) (by omega)
  omega
theorem act_succ (f:Nat->Ed) (y:Int) (i:Nat):act f y (i+1)=act f y i++if y<(f i).en then [f i] else []:=by
 unfold act
 rw [List.range_succ,List.map_append,List.filter_append]
 congr 1
 by_cases h:y<(f i).en<;>simp [h]
theorem act_len (f:Nat->Ed) (y:Int) (i:Nat):(act f y i).length<=i:=by
 unfold act
 refine Nat.le_trans (List.length_filter_le _ _) ?_
 simp
theorem map_eI (L:List Ed):(List.range L.length).map (eI L)=L:=by
 apply List.ext_getElem
 ·simp
 ·intro i h1 h2
  simp [eI,List.getD_eq_getElem?_getD,List.getElem?_eq_getElem h2]
theorem kept_act (f:Nat->Ed) (y:Int) (i:Nat):kept ⟨(act f (y-1) i).length,eI (act f (y-1) i),y⟩ (act f (y-1) i).length=act f y i:=by
 unfold kept
 show ((List.range (act f (y-1) i).length).map (eI (act f (y-1) i))).filter _=_
 rw [map_eI]
 unfold act
 rw [List.filter_filter]
 congr 1
 funext e
 by_cases h:y<e.en
 ·have:y-1<e.en:=by omega
  have h2:¬ e.en<=y:=by omega
  simp [h,this,h2]
 ·have h2:e.en<=y:=by omega
  simp [h,h2]
theorem act_mem {f:Nat->Ed}{y:Int}{i:Nat}{e:Ed}(h:e∈act f y i):∃ k,k<i/\f k=e:=by
 obtain ⟨k,hk,rfl⟩:=List.mem_map.1 (List.mem_filter.1 h).1
 exact ⟨k,List.mem_range.1 hk,rfl⟩
theorem eI_mem {L:List Ed}{k:Nat}(h:k<L.length):eI L k∈L:=by
 unfold eI
 rw [List.getD_eq_getElem?_getD,List.getElem?_eq_getElem h]
 exact List.getElem_mem h
theorem act_nil {f:Nat->Ed}{y:Int}{i:Nat}(h:(act f y i).length=0) {k:Nat}(hk:k<i):(f k).en<=y:=by
 refine Int.not_lt.1 fun hc=>?_
 have:f k∈act f y i:=List.mem_filter.2 ⟨List.mem_map.2 ⟨k,List.mem_range.2 hk,rfl⟩,decide_eq_true hc⟩
 rw [List.length_eq_zero_iff.1 h] at this
 cases this
end Go.Proofs.YtmhofgchidojoaaGreat.Flp
set_option linter.unusedSimpArgs false
set_option linter.unusedVariables false
namespace Go.Proofs.YtmhofgchidojoaaGreat.Flq
open Rga Rgl Fla Flb Flc Fld Fle Flp
structure ScI where
 y:Int
 i:Nat
 R:List Rn
structure ScP (ins:Int->Bool) (g:SoG) (s:ScI):Prop where
 hy : -8192<=s.y/\s.y<=8192
 hi:s.i<=g.n
 low:∀ k,k<s.i->(srtE g k).y<=s.y
 vl:vld s.R
 hm:∀ y x,mem s.R y x=(chi ins g.f g.n y x&&decide (y<s.y))
structure ScQ (ins:Int->Bool) (g:SoG) (s:ScI):Prop where
 hy : -8192<=s.y/\s.y<8192
 hi:s.i<=g.n
 low:∀ k,k<s.i->(srtE g k).y<=s.y
 vl:vld s.R
 hm:∀ y x,mem s.R y x=(chi ins g.f g.n y x&&decide (y<s.y+1))
structure ScM (g:SoG) (s:ScI) (i:Nat):Prop where
 le:s.i<=i
 hi:i<=g.n
 low:∀ k,k<i->(srtE g k).y<=s.y
 up:∀ k,i<=k->k<g.n->s.y<(srtE g k).y
structure ScJ where
 i:Nat
 j:Nat
 R:List Rn
structure ScJP (ins:Int->Bool) (g:SoG) (s:ScI) (t:ScJ):Prop where
 mid:ScM g s t.i
 hj:t.j<=(row g s.y t.i).length
 vl:vld t.R
 hm:∀ y x,mem t.R y x=(chi ins g.f g.n y x&&(decide (y<s.y)||decide (y=s.y/\0<t.j/\x<(cI (row g s.y t.i) (t.j-1)).x)))
def fromI (C:List Cr) (j:Nat):Int:=if j=0 then 0 else (cI C (j-1)).x
variable {ins:Int->Bool}{g:SoG}
theorem chi_in {y x:Int}(h:chi ins g.f g.n y x=true):((-8192<=y/\y<8192)/\ -8192<=x/\x<8192)/\ins (wE g.f g.n y x)=true:=by
 unfold chi at h
 rw [Bool.and_eq_true,decide_eq_true_iff] at h
 exact h
theorem chi_of {y x:Int}(h:(-8192<=y/\y<8192)/\ -8192<=x/\x<8192):chi ins g.f g.n y x=ins (wE g.f g.n y x):=by
 unfold chi
 rw [decide_eq_true h,Bool.true_and]
theorem wz {y x:Int}(h:∀ k,k<g.n->Ed.on (srtE g k) y=false):wE g.f g.n y x=0:=by
 have e:=sum_srt g (fun e=>if Ed.on e y=true/\e.first y<=x then e.s else 0)
 show sumN _ _=0
 rw [<-e]
 exact sumN_zero (Nat.zero_le _) fun k _ hk=>if_neg fun hc=>by rw [h k hk] at hc; cases hc.1
theorem sc_start:ScP ins g ⟨-8192,0,[]⟩:=by
 refine ⟨⟨Int.le_refl _,by decide⟩,Nat.zero_le _,fun k hk=>absurd hk (Nat.not_lt_zero _),vld_nil,fun y x=>?_⟩
 show false=_
 symm
 rw [<-Bool.not_eq_true,Bool.and_eq_true]
 rintro ⟨h1,h2⟩
 have:=(chi_in h1).1
 have:y < -8192:=of_decide_eq_true h2
 omega
theorem sc_done {s:ScI}(h:ScP ins g s) (hy:¬ s.y<8192):s.R=ofSet (chi ins g.f g.n):=by
 refine (ofSet_eq h.vl fun y x=>?_).symm
 rw [h.hm]
 cases hc:chi ins g.f g.n y x with
 | false=>rfl
 | true=>
  have:=(chi_in hc).1
  rw [decide_eq_true (by omega)]; rfl
theorem off_row (hz:ins 0=false) {y x:Int}(h:∀ k,k<g.n->Ed.on (srtE g k) y=false):chi ins g.f g.n y x=false:=by
 unfold chi
 rw [wz h,hz,Bool.and_false]
theorem sc_break (hz:ins 0=false) {s:ScI}(h:ScP ins g s) {i:Nat}(hm:ScM g s i) (ha:(act (srtE g) s.y i).length=0) (hn:g.n-i=0):s.R=ofSet (chi ins g.f g.n):=by
 refine (ofSet_eq h.vl fun y x=>?_).symm
 rw [h.hm]
 by_cases hy:y<s.y
 ·rw [decide_eq_true hy,Bool.and_true]
 ·rw [off_row hz (fun k hk=>decide_eq_false fun hc=>?_)]; rfl
  have:=act_nil ha (show k<i by omega)
  omega
theorem sc_skip (hz:ins 0=false) {s:ScI}(h:ScP ins g s) {i:Nat}(hm:ScM g s i) (ha:(act (srtE g) s.y i).length=0) (hn:i<g.n) (hs:s.y<8192) {Y:Int}(h1:s.y<=Y) (h2:Y<8192) (h3:Y=s.y\/Y<(srtE g i).y):ScQ ins g ⟨Y,i,s.R⟩:=by
 have hup:∀ k,i<=k->k<g.n->Y<(srtE g k).y:=fun k hk hkn=>by
  have:=hm.up k hk hkn
  rcases h3 with h3 | h3
  ·omega
  ·by_cases c:k=i
   ·rw [c]; exact h3
   ·have:=srt_sorted g (show i<k by omega) hkn
    omega
 refine ⟨⟨Int.le_trans h.hy.1 h1,h2⟩,hm.hi,fun k hk=>Int.le_trans (hm.low k hk) h1,h.vl,fun y x=>?_⟩
 rw [h.hm]
 show _=(chi ins g.f g.n y x&&decide (y<Y+1))
 by_cases hy:y<s.y
 ·rw [decide_eq_true hy,decide_eq_true (show y<Y+1 by omega)]
 ·by_cases hy2:y<Y+1
  ·have e:chi ins g.f g.n y x=false:=off_row hz fun k hk=>decide_eq_false fun hc=>by
    by_cases hki:k<i
    ·have:=act_nil ha hki
     omega
    ·have:=hup k (by omega) hk
     omega
   rw [e]; rfl
  ·rw [decide_eq_false hy,decide_eq_false hy2]
theorem sc_in0 {s:ScI}(h:ScP ins g s) {i:Nat}(hm:ScM g s i):ScJP ins g s ⟨i,0,s.R⟩:=by
 refine ⟨hm,Nat.zero_le _,h.vl,fun y x=>?_⟩
 rw [h.hm]
 have:decide (y=s.y/\0<(0:Nat)/\x<(cI (row g s.y i) (0-1)).x)=false:=decide_eq_false fun hc=>Nat.lt_irrefl _ hc.2.1
 show _=(_&&(_||decide (y=s.y/\0<(0:Nat)/\x<(cI (row g s.y i) (0-1)).x)))
 rw [this,Bool.or_false]
theorem seg_chi {s:ScI}{t:ScJ}(h:ScJP ins g s t) (hs : -8192<=s.y/\s.y<8192) {x:Int}(hx : -8192<=x/\x<8192) (h1:0<t.j->(cI (row g s.y t.i) (t.j-1)).x<=x) (h2:t.j<(row g s.y t.i).length->x<(cI (row g s.y t.i) t.j).x) :
  chi ins g.f g.n s.y x=ins (pre (row g s.y t.i) t.j):=by
 rw [chi_of ⟨hs,hx⟩,<-row_ws g h.mid.hi h.mid.up x]
 congr 1
 exact seg (C:=row g s.y t.i) (fun i j hij hj=>crs_sorted (eI (act (srtE g) s.y t.i)) s.y (act (srtE g) s.y t.i).length hij hj) h.hj h1 h2
theorem sc_in2 {s:ScI}{t:ScJ}(h:ScJP ins g s t) (hs : -8192<=s.y/\s.y<8192) (hj:t.j<(row g s.y t.i).length) (hn:ins (pre (row g s.y t.i) t.j)=false):ScJP ins g s ⟨t.i,t.j+1,t.R⟩:=by
 refine ⟨h.mid,hj,h.vl,fun y x=>?_⟩
 rw [h.hm]
 show _=(_&&(_||decide (y=s.y/\0<t.j+1/\x<(cI (row g s.y t.i) t.j).x)))
 cases hc:chi ins g.f g.n y x with
 | false=>rfl
 | true=>
  rw [Bool.true_and,Bool.true_and]
  congr 1
  have hin:=(chi_in hc).1
  rw [Bool.eq_iff_iff,decide_eq_true_iff,decide_eq_true_iff]
  constructor
  ·rintro ⟨e1,e2,e3⟩
   have:=crs_sorted (eI (act (srtE g) s.y t.i)) s.y (act (srtE g) s.y t.i).length (show t.j-1<t.j by omega) hj
   exact ⟨e1,by omega,Int.lt_of_lt_of_le e3 this⟩
  ·rintro ⟨e1,_,e3⟩
   refine Classical.byContradiction fun hno=>?_
   subst e1
   have:=seg_chi h hs hin.2 (fun h0=>by
    refine Int.not_lt.1 fun hlt=>hno ⟨rfl,h0,hlt⟩) (fun _=>e3)
   rw [hc,hn] at this
   cases this
theorem sc_in1 (hz:ins 0=false) {s:ScI}{t:ScJ}(h:ScJP ins g s t) (hs : -8192<=s.y/\s.y<8192) (hj:t.j<(row g s.y t.i).length) (hn:ins (pre (row g s.y t.i) t.j)=true)
  {a b:Int}(ha:a=if -8192>fromI (row g s.y t.i) t.j then -8192 else fromI (row g s.y t.i) t.j) (hb:b=if 8192<(cI (row g s.y t.i) t.j).x then 8192 else (cI (row g s.y t.i) t.j).x):ScJP ins g s ⟨t.i,t.j+1,addR t.R ⟨s.y,a,b⟩⟩:=by
 have j0:0<t.j:=by
  refine Nat.pos_of_ne_zero fun hc=>?_
  rw [hc] at hn
  have:pre (row g s.y t.i) 0=0:=rfl
  rw [this,hz] at hn
  cases hn
 have hf:fromI (row g s.y t.i) t.j=(cI (row g s.y t.i) (t.j-1)).x:=if_neg (by omega)
 rw [hf] at ha
 have hso:=crs_sorted (eI (act (srtE g) s.y t.i)) s.y (act (srtE g) s.y t.i).length (show t.j-1<t.j by omega) hj
 have hso:(cI (row g s.y t.i) (t.j-1)).x<=(cI (row g s.y t.i) t.j).x:=hso
 have haft:aft t.R s.y a:=by
  intro r hr
  have hmem:r∈t.R:=List.mem_of_getLast? hr
  have ho:=h.vl.1 r hmem
  have hin:mem t.R r.y r.x0=true:=(mem_iff _ _ _).2 ⟨r,hmem,rfl,Int.le_refl _,ho.2⟩
  rw [h.hm,Bool.and_eq_true,Bool.or_eq_true,decide_eq_true_iff,decide_eq_true_iff] at hin
  rcases hin.2 with h1 | ⟨h1,_,h3⟩
  ·exact .inl h1
  ·refine .inr ⟨h1,?_⟩
   rw [ha]
   split<;>omega
 obtain ⟨q1,q2,_⟩:=add_ok h.vl (r:=⟨s.y,a,b⟩) (fun hab=>by
  have hab:a<b:=hab
  refine ⟨⟨hs,⟨?_,?_⟩,?_,?_⟩,hab⟩
  ·show -8192<=a; rw [ha]; split<;>omega
  ·show a<=8192
   have:b<=8192:=by rw [hb]; split<;>omega
   omega
  ·show -8192<=b
   have : -8192<=a:=by rw [ha]; split<;>omega
   omega
  ·show b<=8192; rw [hb]; split<;>omega) haft
 refine ⟨h.mid,hj,q1,fun y x=>?_⟩
 show mem (addR t.R ⟨s.y,a,b⟩) y x=(_&&(_||decide (y=s.y/\0<t.j+1/\x<(cI (row g s.y t.i) t.j).x)))
 rw [q2,h.hm]
 have hir:inR ⟨s.y,a,b⟩ y x=decide (s.y=y/\a<=x/\x<b):=rfl
 rw [hir]
 cases hc:chi ins g.f g.n y x with
 | false=>
  rw [Bool.false_and,Bool.false_or,Bool.false_and]
  refine decide_eq_false fun hh=>?_
  obtain ⟨rfl,hax,hxb⟩:=hh
  have x1 : -8192<=x/\x<8192:=by
   refine ⟨?_,?_⟩
   ·have : -8192<=a:=by rw [ha]; split<;>omega
    omega
   ·have:b<=8192:=by rw [hb]; split<;>omega
    omega
  have x2:(cI (row g s.y t.i) (t.j-1)).x<=x:=by
   have:(cI (row g s.y t.i) (t.j-1)).x<=a:=by rw [ha]; split<;>omega
   omega
  have x3:x<(cI (row g s.y t.i) t.j).x:=by
   have:b<=(cI (row g s.y t.i) t.j).x:=by rw [hb]; split<;>omega
   omega
  have:=seg_chi h hs x1 (fun _=>x2) (fun _=>x3)
  rw [hc,hn] at this
  cases this
 | true=>
  have hin:=(chi_in hc).1
  rw [Bool.true_and,Bool.true_and,Bool.or_assoc]
  congr 1
  rw [Bool.eq_iff_iff,Bool.or_eq_true,decide_eq_true_iff,decide_eq_true_iff,decide_eq_true_iff]
  constructor
  ·rintro (⟨e1,e2,e3⟩ | ⟨e1,e2,e3⟩)
   ·exact ⟨e1,by omega,Int.lt_of_lt_of_le e3 hso⟩
   ·refine ⟨e1.symm,by omega,?_⟩
    have:b<=(cI (row g s.y t.i) t.j).x:=by rw [hb]; split<;>omega
    omega
  ·rintro ⟨e1,_,e3⟩
   by_cases hlt:x<(cI (row g s.y t.i) (t.j-1)).x
   ·exact .inl ⟨e1,j0,hlt⟩
   ·refine .inr ⟨e1.symm,?_,?_⟩
    ·rw [ha]; split<;>omega
    ·rw [hb]; split<;>omega
theorem sc_out (hz:ins 0=false) (hb:∀ y,tot g.f g.n y=0) {s:ScI}{t:ScJ}(h:ScJP ins g s t) (hs : -8192<=s.y/\s.y<8192) (hj:¬ t.j<(row g s.y t.i).length):ScQ ins g ⟨s.y,t.i,t.R⟩:=by
 refine ⟨hs,h.mid.hi,h.mid.low,h.vl,fun y x=>?_⟩
 rw [h.hm]
 show _=(_&&decide (y<s.y+1))
 cases hc:chi ins g.f g.n y x with
 | false=>rfl
 | true=>
  have hin:=(chi_in hc).1
  rw [Bool.true_and,Bool.true_and,Bool.eq_iff_iff,Bool.or_eq_true,decide_eq_true_iff,decide_eq_true_iff,decide_eq_true_iff]
  constructor
  ·rintro (h1 | ⟨h1,_⟩)<;>omega
  ·intro h1
   by_cases hy:y<s.y
   ·exact .inl hy
   ·have e1:y=s.y:=by omega
    refine .inr ?_
    refine Classical.byContradiction fun hno=>?_
    subst e1
    have e:=seg_chi h hs hin.2 (fun h0=>Int.not_lt.1 fun hlt=>hno ⟨rfl,h0,hlt⟩) (fun hlt=>absurd hlt hj)
    have ej:t.j=(row g s.y t.i).length:=Nat.le_antisymm h.hj (Nat.not_lt.1 hj)
    rw [hc,ej,<-wt_sum,row_wt g h.mid.hi h.mid.up,hb,hz] at e
    cases e
theorem sc_next {t:ScI}(h:ScQ ins g t):ScP ins g ⟨t.y+1,t.i,t.R⟩:=
 ⟨⟨by have:=h.hy.1; show -8192<=t.y+1; omega,by have:=h.hy.2; show t.y+1<=8192; omega⟩,h.hi,fun k hk=>by have:=h.low k hk; show (srtE g k).y<=t.y+1; omega,h.vl,h.hm⟩
end Go.Proofs.YtmhofgchidojoaaGreat.Flq
