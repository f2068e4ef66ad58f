/- Part 11 of the texts that the law's proof leans on. -/
import Derived.Test.YthappngbapbkfaaM10
set_option linter.unusedSimpArgs false
set_option linter.unusedVariables false
namespace Go.Proofs.Ythappngbapbkfaa.Lat
open Go.RowKit Sx Num Aff Afi Img Imh Imp Imq Rga Blend Ble Lsg Lta Lrd Lri Luc Lck Lgr Lcs Lst Lch Lcl Lgp Lsc Cmp Lpm Lpa Lpr Lbt Lpn Lpc Lpd Lpe Lpf Lrw Lto
set_option maxRecDepth 100000
theorem spec_ex {P:Program}{f:FuncId}{γ δ:Type}{dec:List SV->Option γ}{args:γ->List SV}{pre:δ->γ->Prop}{res:γ->SV}(d0:δ) (h:∀ d,SpecOK P (mkSpec f dec args (pre d) res)):SpecOK P (mkSpec f dec args (fun g=>∃ d,pre d g) res):=by
 refine ⟨(h d0).1,fun _ _ _ _ _ _ _ hr=>hr,fun l H nm y hrun hask w0 X0 E w hrep hf vals ha=>?_⟩
 simp only [mkSpec] at hrun
 split at hrun
 case h_2=>cases hrun
 rename_i hpu
 split at hrun
 case h_2=>cases hrun
 rename_i g hdec
 cases hrun
 obtain ⟨hle,⟨d,hpre⟩⟩:=hask
 exact (h d).2.2 l H nm ⟨mkSpec.leArgs l (args g)/\Sx.Ask (pre d g),res g,.keep⟩ (by simp only [mkSpec,hpu,hdec]) ⟨hle,⟨hpre⟩⟩ w0 X0 E w hrep hf vals ha
noncomputable def spRowA:FSpec:=mkSpec 17 (γ:=RoG) (fun | [.agg _ p,.int _ y,.int _ x0,.int _ x1]=>some ⟨refGD (p 0),ndOf (refGD (p 0)),(Sx.intOf (p 1)).toNat,y,x0,(x1-x0).toNat⟩ | _=>none)
 (fun g=>[.agg 2 (lst [.ref 37 g.c,.int .i64 g.k]),.int .i64 g.y,.int .i64 g.x0,.int .i64 (g.x0+g.ns)]) (fun g=>∃ d,RoOK d g) (fun g=> .sl g.ns 8 (fun i j=> .int .u8 (cellI g.nd g.k (g.x0+i) g.y j)))
theorem ok_rowA:SpecOK Try.prog spRowA:=spec_ex 0 ok_row
noncomputable def spOfN:FSpec:=mkSpec 16 (γ:=LsG) (fun | [.agg _ g]=>some (lsD g) | _=>none) (fun g=>[lsS g]) LsOK (fun g=> .agg 2 (lst [.ref 37 (ndX (ndP g)),.int .i64 g.ni]))
theorem ok_ofN:SpecOK Try.prog spOfN:=by
 refine spec_sound (specs:=[spTreeN]) (all_ok (⟨ok_treeN,trivial⟩)) (eqs:=[]) (fun _ _ h=>(List.not_mem_nil h).elim) Aff.mixed Try.func16 rfl (by kernel_rfl) (fun _ _=>by kernel_rfl) (fun g=>A0) (fun g=>Nat.le_of_ble_eq_true (by kernel_rfl)) ?_
 rintro L hL
 refine vc_of (B:=let V:=fun p:Sx.SV=>Sx.SVle [] [] p p;let A:=Sx.Ask;let z2:=(IntKind.i64=IntKind.i64);let q2:=fun p:Int=>A z2/\A (p=p);let z1:=(Lto.ndP L);let z0:=(IntKind.u8=IntKind.u8);let q0:=fun p:Int=>A z0/\A (p=p);True/\True/\True/\((((((True/\q2 L.w)/\q2 L.h)/\A (L.ni=L.ni)/\∀ i:Nat,i<L.ni->True/\A (L.nm i=L.nm i))/\A (L.n=L.n)/\∀ i:Nat,i<L.n->(((((((((((((((((((((((((((((((((True/\q2 ((L.it i).kind))/\A ((L.it i).nr=(L.it i).nr)/\∀ i_1:Nat,let z5:=((L.it i).runs i_1); i_1<(L.it i).nr->((True/\q2 z5.y)/\q2 z5.x0)/\q2 z5.x1)/\q2 ((L.it i).src.kind))/\q0 ((L.it i).src.ink.c0))/\q0 ((L.it i).src.ink.c1))/\q0 ((L.it i).src.ink.c2))/\q0 ((L.it i).src.ink.c3))/\q0 ((L.it i).src.ink.c4))/\q0 ((L.it i).src.ink.c5))/\q0 ((L.it i).src.ink.c6))/\q0 ((L.it i).src.ink.c7))/\q2 ((L.it i).src.fx))/\q2 ((L.it i).src.fy))/\q2 ((L.it i).src.tx))/\q2 ((L.it i).src.ty))/\q2 ((L.it i).src.rad))/\A ((L.it i).src.ns=(L.it i).src.ns)/\∀ i_1:Nat,let z4:=((L.it i).src.st i_1); i_1<(L.it i).src.ns->((((((((True/\q2 z4.pos)/\q0 z4.ink.c0)/\q0 z4.ink.c1)/\q0 z4.ink.c2)/\q0 z4.ink.c3)/\q0 z4.ink.c4)/\q0 z4.ink.c5)/\q0 z4.ink.c6)/\q0 z4.ink.c7)/\q2 ((L.it i).src.img.w))/\q2 ((L.it i).src.img.h))/\A ((L.it i).src.img.n=(L.it i).src.img.n)/\∀ i_1:Nat,let z3:=((L.it i).src.img.px i_1); i_1<(L.it i).src.img.n->(((((((True/\q0 z3.c0)/\q0 z3.c1)/\q0 z3.c2)/\q0 z3.c3)/\q0 z3.c4)/\q0 z3.c5)/\q0 z3.c6)/\q0 z3.c7)/\A ((L.it i).src.img.sn=(L.it i).src.img.sn)/\∀ i_1:Nat,i_1<(L.it i).src.img.sn->True/\q0 ((L.it i).src.img.sf i_1))/\q2 ((L.it i).src.img.m.a))/\q2 ((L.it i).src.img.m.b))/\q2 ((L.it i).src.img.m.c))/\q2 ((L.it i).src.img.m.d))/\q2 ((L.it i).src.img.m.e))/\q2 ((L.it i).src.img.m.f))/\A ((L.it i).src.img.smooth=(L.it i).src.img.smooth))/\A ((L.it i).src.img.rep=(L.it i).src.img.rep))/\q0 ((L.it i).alpha))/\q2 ((L.it i).blend))/\A ((L.it i).over=(L.it i).over))/\A ((L.it i).iso=(L.it i).iso))/\A ((L.it i).knock=(L.it i).knock))/\True)/\A (Lta.LsOK L))/\True/\True/\True/\True/\True/\(True/\True)/\(True/\((((((((((((((((((((((((((((((((((((True/\V (Lpn.ndX z1 (0:Nat)))/\V (Lpn.ndX z1 (1:Nat)))/\V (Lpn.ndX z1 (2:Nat)))/\V (Lpn.ndX z1 (3:Nat)))/\V (Lpn.ndX z1 (4:Nat)))/\V (Lpn.ndX z1 (5:Nat)))/\V (Lpn.ndX z1 (6:Nat)))/\V (Lpn.ndX z1 (7:Nat)))/\V (Lpn.ndX z1 (8:Nat)))/\V (Lpn.ndX z1 (9:Nat)))/\V (Lpn.ndX z1 (10:Nat)))/\V (Lpn.ndX z1 (11:Nat)))/\V (Lpn.ndX z1 (12:Nat)))/\V (Lpn.ndX z1 (13:Nat)))/\V (Lpn.ndX z1 (14:Nat)))/\V (Lpn.ndX z1 (15:Nat)))/\V (Lpn.ndX z1 (16:Nat)))/\V (Lpn.ndX z1 (17:Nat)))/\V (Lpn.ndX z1 (18:Nat)))/\V (Lpn.ndX z1 (19:Nat)))/\V (Lpn.ndX z1 (20:Nat)))/\V (Lpn.ndX z1 (21:Nat)))/\V (Lpn.ndX z1 (22:Nat)))/\V (Lpn.ndX z1 (23:Nat)))/\V (Lpn.ndX z1 (24:Nat)))/\V (Lpn.ndX z1 (25:Nat)))/\V (Lpn.ndX z1 (26:Nat)))/\V (Lpn.ndX z1 (27:Nat)))/\V (Lpn.ndX z1 (28:Nat)))/\V (Lpn.ndX z1 (29:Nat)))/\V (Lpn.ndX z1 (30:Nat)))/\V (Lpn.ndX z1 (31:Nat)))/\V (Lpn.ndX z1 (32:Nat)))/\V (Lpn.ndX z1 (33:Nat)))/\V (Lpn.ndX z1 (34:Nat)))/\V (Lpn.ndX z1 (35:Nat)))/\V (Lpn.ndX z1 (36:Nat)))/\q2 ((↑L.ni:Int))) (by kernel_rfl) ?_
 simp only [ask_iff,br_iff,eq_self,true_and,and_true,implies_true,forall_const,decide_eq_true_eq,decide_eq_false_iff_not,ne_eq,Nat.mul_one,Nat.add_zero,Nat.zero_add]
 have hs:∀ nd j,SVle [] [] (ndX nd j) (ndX nd j)=True:=fun nd j=>eq_true (SVle.refl [] [] (ndX_own nd j))
 simp only [hs,and_self,and_true]
 exact hL
structure AtL where
 L:LsG
 x:Int
 y:Int
def AtL.e (g:AtL):Int:=if chkL g.L≠0 then chkL g.L else if g.x<0\/16*g.L.w<=g.x\/g.y<0\/16*g.L.h<=g.y then 3 else 0
def AtL.v (g:AtL) (j:Nat):Int:=if g.e=0 then cellI (ndP g.L) g.L.ni g.x g.y j else 0
noncomputable def spAtL:FSpec:=mkSpec 9 (γ:=AtL) (fun | [.agg _ g,.int _ x,.int _ y]=>some ⟨lsD g,x,y⟩ | _=>none) (fun g=>[lsS g.L,.int .i64 g.x,.int .i64 g.y]) (fun g=>LsU8 g.L) (fun g=> .tup 2 (lst [.agg 8 (fun j=> .int .u8 (g.v j)),.int .i64 g.e]))
set_option maxHeartbeats 1000000 in
theorem ok_atL:SpecOK Try.prog spAtL:=by
 refine spec_sound (specs:=[spLchk,spOfN,spRowA]) (all_ok (⟨ok_lchk,ok_ofN,ok_rowA,trivial⟩)) (eqs:=[]) (fun _ _ h=>(List.not_mem_nil h).elim) Aff.mixed Try.func9 rfl (by kernel_rfl) (fun _ _=>by kernel_rfl) (fun g=>A0) (fun g=>Nat.le_of_ble_eq_true (by kernel_rfl)) ?_
 rintro ⟨L,x,y⟩ hL
 refine vc_of (B:=let T3:=fun p:Prop=>True/\True/\True/\p;let T4:=fun p:Prop=>True/\True/\True/\True/\p;let V:=fun p:Sx.SV=>Sx.SVle [] [] p p;let K:=Sx.Br;let A:=Sx.Ask;let z16:=(True/\True);let z15:=(9223372036854775807:Int);let z14:=(-9223372036854775808:Int);let z12:=(0:Int);let z11:=(↑L.ni:Int);let z10:=(0:Nat);let z8:=(AtL.mk L x y);let z17:=((3:Int)=z8.e);let z7:=(x+(↑(Int.toNat z12):Int));let z4:=(Lto.ndP L);let z9:=(Lpn.ndOf (Lpn.ndX z4));let z3:=(IntKind.i64=IntKind.i64);let q3:=fun p:Int=>A z3/\A (p=p);let z2:=(IntKind.u8=IntKind.u8);let q2:=fun p:Int=>A z2/\A (p=p);let z1:=(True/\(((((((True/\A z2/\A (z12=z8.v z10))/\A z2/\A (z12=z8.v (1:Nat)))/\A z2/\A (z12=z8.v (2:Nat)))/\A z2/\A (z12=z8.v (3:Nat)))/\A z2/\A (z12=z8.v (4:Nat)))/\A z2/\A (z12=z8.v (5:Nat)))/\A z2/\A (z12=z8.v (6:Nat)))/\A z2/\A (z12=z8.v (7:Nat)));let z0:=(((((True/\q3 L.w)/\q3 L.h)/\A (L.ni=L.ni)/\∀ i:Nat,i<L.ni->True/\A (L.nm i=L.nm i))/\A (L.n=L.n)/\∀ i:Nat,i<L.n->(((((((((((((((((((((((((((((((((True/\q3 ((L.it i).kind))/\A ((L.it i).nr=(L.it i).nr)/\∀ i_1:Nat,let z13:=((L.it i).runs i_1); i_1<(L.it i).nr->((True/\q3 z13.y)/\q3 z13.x0)/\q3 z13.x1)/\q3 ((L.it i).src.kind))/\q2 ((L.it i).src.ink.c0))/\q2 ((L.it i).src.ink.c1))/\q2 ((L.it i).src.ink.c2))/\q2 ((L.it i).src.ink.c3))/\q2 ((L.it i).src.ink.c4))/\q2 ((L.it i).src.ink.c5))/\q2 ((L.it i).src.ink.c6))/\q2 ((L.it i).src.ink.c7))/\q3 ((L.it i).src.fx))/\q3 ((L.it i).src.fy))/\q3 ((L.it i).src.tx))/\q3 ((L.it i).src.ty))/\q3 ((L.it i).src.rad))/\A ((L.it i).src.ns=(L.it i).src.ns)/\∀ i_1:Nat,let z6:=((L.it i).src.st i_1); i_1<(L.it i).src.ns->((((((((True/\q3 z6.pos)/\q2 z6.ink.c0)/\q2 z6.ink.c1)/\q2 z6.ink.c2)/\q2 z6.ink.c3)/\q2 z6.ink.c4)/\q2 z6.ink.c5)/\q2 z6.ink.c6)/\q2 z6.ink.c7)/\q3 ((L.it i).src.img.w))/\q3 ((L.it i).src.img.h))/\A ((L.it i).src.img.n=(L.it i).src.img.n)/\∀ i_1:Nat,let z5:=((L.it i).src.img.px i_1); i_1<(L.it i).src.img.n->(((((((True/\q2 z5.c0)/\q2 z5.c1)/\q2 z5.c2)/\q2 z5.c3)/\q2 z5.c4)/\q2 z5.c5)/\q2 z5.c6)/\q2 z5.c7)/\A ((L.it i).src.img.sn=(L.it i).src.img.sn)/\∀ i_1:Nat,i_1<(L.it i).src.img.sn->True/\q2 ((L.it i).src.img.sf i_1))/\q3 ((L.it i).src.img.m.a))/\q3 ((L.it i).src.img.m.b))/\q3 ((L.it i).src.img.m.c))/\q3 ((L.it i).src.img.m.d))/\q3 ((L.it i).src.img.m.e))/\q3 ((L.it i).src.img.m.f))/\A ((L.it i).src.img.smooth=(L.it i).src.img.smooth))/\A ((L.it i).src.img.rep=(L.it i).src.img.rep))/\q2 ((L.it i).alpha))/\q3 ((L.it i).blend))/\A ((L.it i).over=(L.it i).over))/\A ((L.it i).iso=(L.it i).iso))/\A ((L.it i).knock=(L.it i).knock))/\True);T4 ((z0/\A (∀ i:Nat,i<L.n->(L.it i).nr<=(9223372036854775807:Nat)))/\T3 (K (decide (Lcl.chkL L≠z12)) (T4 (z16/\z1/\A z3/\A (Lcl.chkL L=z8.e))) (T3 (K (decide (x<z12)) (T4 (T4 (z16/\z1/\A z3/\A z17))) (T3 (A (z14<=(16:Int)*L.w/\(16:Int)*L.w<=z15)/\T3 (K (decide ((16:Int)*L.w<=x)) (T4 (True/\True/\z16/\z1/\A z3/\A z17)) (T4 (K (decide (y<z12)) (T4 (z16/\z1/\A z3/\A z17)) (T3 (A (z14<=(16:Int)*L.h/\(16:Int)*L.h<=z15)/\True/\True/\K (decide ((16:Int)*L.h<=y)) (T3 (z16/\z1/\A z3/\A z17)) (True/\(z0/\A (Lta.LsOK L))/\T3 (A (z14<=x+(1:Int)/\x+(1:Int)<=z15)/\((((True/\((((((((((((((((((((((((((((((((((((True/\V (Lpn.ndX z4 0))/\V (Lpn.ndX z4 (1:Nat)))/\V (Lpn.ndX z4 (2:Nat)))/\V (Lpn.ndX z4 (3:Nat)))/\V (Lpn.ndX z4 (4:Nat)))/\V (Lpn.ndX z4 (5:Nat)))/\V (Lpn.ndX z4 (6:Nat)))/\V (Lpn.ndX z4 (7:Nat)))/\V (Lpn.ndX z4 (8:Nat)))/\V (Lpn.ndX z4 (9:Nat)))/\V (Lpn.ndX z4 (10:Nat)))/\V (Lpn.ndX z4 (11:Nat)))/\V (Lpn.ndX z4 (12:Nat)))/\V (Lpn.ndX z4 (13:Nat)))/\V (Lpn.ndX z4 (14:Nat)))/\V (Lpn.ndX z4 (15:Nat)))/\V (Lpn.ndX z4 (16:Nat)))/\V (Lpn.ndX z4 (17:Nat)))/\V (Lpn.ndX z4 (18:Nat)))/\V (Lpn.ndX z4 (19:Nat)))/\V (Lpn.ndX z4 (20:Nat)))/\V (Lpn.ndX z4 (21:Nat)))/\V (Lpn.ndX z4 (22:Nat)))/\V (Lpn.ndX z4 (23:Nat)))/\V (Lpn.ndX z4 (24:Nat)))/\V (Lpn.ndX z4 (25:Nat)))/\V (Lpn.ndX z4 (26:Nat)))/\V (Lpn.ndX z4 (27:Nat)))/\V (Lpn.ndX z4 (28:Nat)))/\V (Lpn.ndX z4 (29:Nat)))/\V (Lpn.ndX z4 (30:Nat)))/\V (Lpn.ndX z4 (31:Nat)))/\V (Lpn.ndX z4 (32:Nat)))/\V (Lpn.ndX z4 (33:Nat)))/\V (Lpn.ndX z4 (34:Nat)))/\V (Lpn.ndX z4 (35:Nat)))/\V (Lpn.ndX z4 (36:Nat)))/\A z3/\A (z11=(↑z11.toNat:Int)))/\(q3 y)/\(q3 x)/\(A z3/\A (x+(1:Int)=x+(↑(x+(1:Int)-x).toNat:Int)))/\True)/\A (∃ d:Nat,Lrw.RoOK d (Lrw.RoG.mk (Lpn.ndX z4) z9 z11.toNat y x (x+(1:Int)-x).toNat)))/\A (z12<=z12/\z12<(↑(x+(1:Int)-x).toNat:Int))/\T3 (z16/\(True/\(((((((True/\A z2/\A (Lrw.cellI z9 z11.toNat z7 y (z10+(z10+z10))=z8.v z10))/\A z2/\A (Lrw.cellI z9 z11.toNat z7 y (z10+(z10+(1:Nat)))=z8.v (1:Nat)))/\A z2/\A (Lrw.cellI z9 z11.toNat z7 y (z10+(z10+(2:Nat)))=z8.v (2:Nat)))/\A z2/\A (Lrw.cellI z9 z11.toNat z7 y (z10+(z10+(3:Nat)))=z8.v (3:Nat)))/\A z2/\A (Lrw.cellI z9 z11.toNat z7 y (z10+(z10+(4:Nat)))=z8.v (4:Nat)))/\A z2/\A (Lrw.cellI z9 z11.toNat z7 y (z10+(z10+(5:Nat)))=z8.v (5:Nat)))/\A z2/\A (Lrw.cellI z9 z11.toNat z7 y (z10+(z10+(6:Nat)))=z8.v (6:Nat)))/\A z2/\A (Lrw.cellI z9 z11.toNat z7 y (z10+(z10+(7:Nat)))=z8.v (7:Nat)))/\A z3/\A (z12=z8.e)))))))))))))))) (by kernel_rfl) ?_
 simp only [ask_iff,br_iff,eq_self,true_and,and_true,implies_true,forall_const,decide_eq_true_eq,decide_eq_false_iff_not,ne_eq,Nat.mul_one,Nat.add_zero,Nat.zero_add]
 have hs:∀ nd j,SVle [] [] (ndX nd j) (ndX nd j)=True:=fun nd j=>eq_true (SVle.refl [] [] (ndX_own nd j))
 have e1:(x+1-x).toNat=1:=by omega
 have e2:∀ z:Int,z+((Int.toNat 0:Nat):Int)=z:=fun z=>Int.add_zero z
 have e3:((1:Nat):Int)=1:=rfl
 simp only [hs,ndOf_ndX,Int.toNat_natCast,e1,e2,e3,and_self,and_true,true_and]
 have bad:∀ v:Int,AtL.e ⟨L,x,y⟩=v->v≠0->(((((((0=AtL.v ⟨L,x,y⟩ 0/\0=AtL.v ⟨L,x,y⟩ 1)/\0=AtL.v ⟨L,x,y⟩ 2)/\0=AtL.v ⟨L,x,y⟩ 3)/\0=AtL.v ⟨L,x,y⟩ 4)/\0=AtL.v ⟨L,x,y⟩ 5)/\0=AtL.v ⟨L,x,y⟩ 6)/\0=AtL.v ⟨L,x,y⟩ 7)/\v=AtL.e ⟨L,x,y⟩:=fun v h hv=>by
  have hz:∀ j,(0:Int)=AtL.v ⟨L,x,y⟩ j:=fun j=>(if_neg (by rw [h]; exact hv)).symm
  exact ⟨all8 hz,h.symm⟩
 have b3:chkL L=0->(x<0\/16*L.w<=x\/y<0\/16*L.h<=y)->AtL.e ⟨L,x,y⟩=3:=fun h h2=>by
  unfold AtL.e; rw [if_neg (fun hc=>hc h),if_pos h2]
 refine ⟨hL.nr,fun h=>bad _ (if_pos h) h,fun h=>?_⟩
 have h0:chkL L=0:=Classical.not_not.1 h
 have hc:=chk_ok h0
 have hw:=hc.w
 have hh:=hc.h
 refine ⟨fun h1=>bad 3 (b3 h0 (.inl h1)) (by decide),fun h1=>⟨by omega,fun h2=>bad 3 (b3 h0 (.inr (.inl h2))) (by decide),fun h2=>⟨fun h3=>bad 3 (b3 h0 (.inr (.inr (.inl h3)))) (by decide),fun h3=>⟨by omega,fun h4=>bad 3 (b3 h0 (.inr (.inr (.inr h4)))) (by decide),fun h4=>?_⟩⟩⟩⟩
 have hg:=ndP_ok hc hL
 have he:AtL.e ⟨L,x,y⟩=0:=by
  unfold AtL.e; rw [if_neg (fun hcc=>hcc h0),if_neg (by simp only; omega)]
 have hv:∀ j,cellI (ndP L) L.ni x y j=AtL.v ⟨L,x,y⟩ j:=fun j=>(if_pos he).symm
 exact ⟨ls_ok hc,by omega,⟨_,rfl,hg.isg,hg.n,hg.kid,hc.ni.1,hc.ni.2,by simp only; omega,by simp only; omega,by simp only; omega,by simp only; omega⟩,by decide,all8 hv,he.symm⟩
def endR (L:LsG) (o:Int):Nat->Nat->Nat
 | 0,k=>k
 | m+1,k=>if opI L (k+1)=o then k else endR L o m (k+1)
theorem endR_next {L:LsG}{o:Int}{n i:Nat}(h:i<n):endR L o (n-i) i=if opI L (i+1)=o then i else endR L o (n-(i+1)) (i+1):=by
 rw [show n-i=(n-(i+1))+1 by omega]; rfl
structure EnG where
 L:LsG
 i:Nat
def EnG.r (g:EnG):Nat:=endR g.L (opI g.L g.i) (g.L.n-g.i) g.i
structure EnOK (g:EnG):Prop where
 n:g.L.n<=5000
 ex:∃ k,g.i<=k/\k<g.L.n/\opI g.L (k+1)=opI g.L g.i
def enI (g:EnG):Inv:=⟨Nat,fun k=>(g.i<=k/\k<=g.L.n/\g.r=endR g.L (opI g.L g.i) (g.L.n-k) k)/\∃ j,k<=j/\j<g.L.n/\opI g.L (j+1)=opI g.L g.i,fun k=>⟨[(2,.own 0 0),(5,.int .i64 (opI g.L k-opI g.L g.i)),(6,.int .i64 k)],[lsO g.L]⟩,fun k=>g.L.n-k⟩
def spEndL:FSpec:=mkSpec 14 (γ:=EnG) (fun | [.agg _ g,.int _ i]=>some ⟨lsD g,i.toNat⟩ | _=>none) (fun g=>[lsS g.L,.int .i64 g.i]) EnOK (fun g=> .int .i64 g.r)
theorem ok_endL:SpecOK Try.prog spEndL:=by
 refine spec_sound (specs:=[]) (all_ok trivial) (eqs:=[]) (fun _ _ h=>(List.not_mem_nil h).elim) Aff.mixed Try.func14 rfl (by kernel_rfl) (fun _ _=>by kernel_rfl) (fun g=>(⟨[(4,.inv (enI g))],[]⟩:Ann)) (fun g=>Nat.le_of_ble_eq_true (by kernel_rfl)) ?_
 rintro ⟨L,i⟩ hg
 refine vc_of (B:=let K:=Sx.Br;let A:=Sx.Ask;let z13:=(9223372036854775807:Int);let z12:=(-9223372036854775808:Int);let z10:=((0:Nat)=(0:Nat));let z9:=(1:Int);let z7:=(enI (EnG.mk L i));let z2:=(IntKind.u8=IntKind.u8);let q2:=fun p:Int=>A z2/\A (p=p);let z1:=(IntKind.i64=IntKind.i64);let q1:=fun p:Int=>A z1/\A (p=p);let z0:=((((True/\q1 L.w)/\q1 L.h)/\A (L.ni=L.ni)/\∀ i:Nat,i<L.ni->True/\A (L.nm i=L.nm i))/\A (L.n=L.n)/\∀ i:Nat,i<L.n->(((((((((((((((((((((((((((((((((True/\q1 ((L.it i).kind))/\A ((L.it i).nr=(L.it i).nr)/\∀ i_1:Nat,let z8:=((L.it i).runs i_1); i_1<(L.it i).nr->((True/\q1 z8.y)/\q1 z8.x0)/\q1 z8.x1)/\q1 ((L.it i).src.kind))/\q2 ((L.it i).src.ink.c0))/\q2 ((L.it i).src.ink.c1))/\q2 ((L.it i).src.ink.c2))/\q2 ((L.it i).src.ink.c3))/\q2 ((L.it i).src.ink.c4))/\q2 ((L.it i).src.ink.c5))/\q2 ((L.it i).src.ink.c6))/\q2 ((L.it i).src.ink.c7))/\q1 ((L.it i).src.fx))/\q1 ((L.it i).src.fy))/\q1 ((L.it i).src.tx))/\q1 ((L.it i).src.ty))/\q1 ((L.it i).src.rad))/\A ((L.it i).src.ns=(L.it i).src.ns)/\∀ i_1:Nat,let z4:=((L.it i).src.st i_1); i_1<(L.it i).src.ns->((((((((True/\q1 z4.pos)/\q2 z4.ink.c0)/\q2 z4.ink.c1)/\q2 z4.ink.c2)/\q2 z4.ink.c3)/\q2 z4.ink.c4)/\q2 z4.ink.c5)/\q2 z4.ink.c6)/\q2 z4.ink.c7)/\q1 ((L.it i).src.img.w))/\q1 ((L.it i).src.img.h))/\A ((L.it i).src.img.n=(L.it i).src.img.n)/\∀ i_1:Nat,let z3:=((L.it i).src.img.px i_1); i_1<(L.it i).src.img.n->(((((((True/\q2 z3.c0)/\q2 z3.c1)/\q2 z3.c2)/\q2 z3.c3)/\q2 z3.c4)/\q2 z3.c5)/\q2 z3.c6)/\q2 z3.c7)/\A ((L.it i).src.img.sn=(L.it i).src.img.sn)/\∀ i_1:Nat,i_1<(L.it i).src.img.sn->True/\q2 ((L.it i).src.img.sf i_1))/\q1 ((L.it i).src.img.m.a))/\q1 ((L.it i).src.img.m.b))/\q1 ((L.it i).src.img.m.c))/\q1 ((L.it i).src.img.m.d))/\q1 ((L.it i).src.img.m.e))/\q1 ((L.it i).src.img.m.f))/\A ((L.it i).src.img.smooth=(L.it i).src.img.smooth))/\A ((L.it i).src.img.rep=(L.it i).src.img.rep))/\q2 ((L.it i).alpha))/\q1 ((L.it i).blend))/\A ((L.it i).over=(L.it i).over))/\A ((L.it i).iso=(L.it i).iso))/\A ((L.it i).knock=(L.it i).knock));True/\True/\True/\True/\True/\(∃ g:Nat,A (z7.pre g)/\(A z10/\(A z1/\A ((0:Int)=Lcl.opI L g-Lcl.opI L i))/\(A z1/\A ((↑i:Int)=(↑g:Int)))/\True)/\z0/\True)/\∀ g:Nat,let z11:=(↑g:Int);let z6:=(True/\True/\True/\A z1/\A (z11=(↑(EnG.mk L i).r:Int)));let z5:=(z12<=z11+z9/\z11+z9<=z13); z7.pre g->True/\True/\True/\A ((0:Int)<=z11/\z11<(↑L.n:Int))/\True/\True/\True/\True/\K (decide ((L.it z11.toNat).kind=z9)) (True/\A (z12<=Lcl.opI L g-Lcl.opI L i+z9/\Lcl.opI L g-Lcl.opI L i+z9<=z13)/\True/\True/\True/\K (decide (Lcl.opI L g-Lcl.opI L i+z9=(0:Int))) z6 (True/\A z5/\True/\∃ (g':Nat),A (z7.pre g')/\((A z10/\(A z1/\A (Lcl.opI L g-Lcl.opI L i+z9=Lcl.opI L g'-Lcl.opI L i))/\(A z1/\A (z11+z9=(↑g':Int)))/\True)/\z0/\True)/\A (z7.meas g'<z7.meas g))) (True/\True/\K (decide ((L.it z11.toNat).kind=(2:Int))) (True/\A (z12<=Lcl.opI L g-Lcl.opI L i-z9/\Lcl.opI L g-Lcl.opI L i-z9<=z13)/\True/\True/\True/\K (decide (Lcl.opI L g-Lcl.opI L i-z9=(0:Int))) z6 (True/\A z5/\True/\∃ (g':Nat),A (z7.pre g')/\((A z10/\(A z1/\A (Lcl.opI L g-Lcl.opI L i-z9=Lcl.opI L g'-Lcl.opI L i))/\(A z1/\A (z11+z9=(↑g':Int)))/\True)/\z0/\True)/\A (z7.meas g'<z7.meas g))) (True/\True/\K (decide (Lcl.opI L g-Lcl.opI L i=(0:Int))) z6 (True/\A z5/\True/\∃ (g':Nat),A (z7.pre g')/\((A z10/\(A z1/\A (Lcl.opI L g-Lcl.opI L i=Lcl.opI L g'-Lcl.opI L i))/\(A z1/\A (z11+z9=(↑g':Int)))/\True)/\z0/\True)/\A (z7.meas g'<z7.meas g))))) (by kernel_rfl) ?_
 simp only [ask_iff,br_iff,eq_self,true_and,and_true,implies_true,forall_const,decide_eq_true_eq,decide_eq_false_iff_not,ne_eq,Nat.mul_one,Nat.add_zero,Nat.zero_add]
 simp only [Int.toNat_natCast]
 have hn:L.n<=5000:=hg.n
 have hoi:=ops L i
 obtain ⟨j0,j1,j2,j3⟩:=hg.ex
 have j1:i<=j0:=j1
 have j2:j0<L.n:=j2
 refine ⟨⟨i,⟨⟨Nat.le_refl _,(show i<=L.n by omega),rfl⟩,j0,j1,j2,j3⟩,by omega,rfl⟩,fun k hk=>?_⟩
 obtain ⟨⟨k1,k2,k3⟩,j,k4,k5,k6⟩:=hk
 have k1:i<=k:=k1
 have k2:k<=L.n:=k2
 have k5:j<L.n:=k5
 have k6:opI L (j+1)=opI L i:=k6
 have k3:EnG.r ⟨L,i⟩=endR L (opI L i) (L.n-k) k:=k3
 have hlt:k<L.n:=by omega
 have hok:=ops L k
 rw [endR_next hlt] at k3
 have hmm:L.n-(k+1)<L.n-k:=by omega
 have fin:∀ v:Int,opI L (k+1)=opI L k+v->(opI L k-opI L i+v=0->(k:Int)=(EnG.r ⟨L,i⟩:Nat))/\(¬ opI L k-opI L i+v=0->(enI ⟨L,i⟩).pre (k+1)/\opI L k-opI L i+v=opI L (k+1)-opI L i):=fun v hv=>by
  refine ⟨fun h=>?_,fun h=>⟨⟨⟨(show i<=k+1 by omega),hlt,?_⟩,j,?_,k5,k6⟩,by omega⟩⟩
  ·rw [k3,if_pos (by omega)]
  ·rw [k3,if_neg (by omega)]
  ·have:j≠k:=fun e=>by subst e; omega
   omega
 have eo:opI L (k+1)=if (L.it k).kind=1 then opI L k+1 else if (L.it k).kind=2 then opI L k-1 else opI L k:=rfl
 refine ⟨by omega,fun h1=>?_,fun h1=>⟨fun h2=>?_,fun h2=>?_⟩⟩
 ·rw [if_pos h1] at eo
  have:=fin 1 eo
  exact ⟨by omega,this.1,fun h=>⟨by omega,k+1,(this.2 h).1,⟨(this.2 h).2,by simp⟩,hmm⟩⟩
 ·rw [if_neg h1,if_pos h2] at eo
  have:=fin (-1) (by omega)
  exact ⟨by omega,fun h=>this.1 (by omega),fun h=>⟨by omega,k+1,(this.2 (by omega)).1,⟨by have:=(this.2 (by omega)).2; omega,by simp⟩,hmm⟩⟩
 ·rw [if_neg h1,if_neg h2] at eo
  have:=fin 0 (by omega)
  exact ⟨fun h=>this.1 (by omega),fun h=>⟨by omega,k+1,(this.2 (by omega)).1,⟨by have:=(this.2 (by omega)).2; omega,by simp⟩,hmm⟩⟩
theorem endR_in {L:LsG}{o:Int}:∀ m k,(∃ j,k<=j/\j<k+m/\opI L (j+1)=o)->k<=endR L o m k/\endR L o m k<k+m/\opI L (endR L o m k+1)=o
 | 0,k,⟨j,h1,h2,_⟩=>by omega
 | m+1,k,⟨j,h1,h2,h3⟩=>by
  unfold endR
  split
  ·rename_i h; exact ⟨Nat.le_refl _,by omega,h⟩
  ·rename_i h
   have hj:j≠k:=fun e=>h (e▸h3)
   have:=endR_in (L:=L) (o:=o) m (k+1) ⟨j,by omega,by omega,h3⟩
   exact ⟨by omega,by omega,this.2.2⟩
theorem chk_end {L:LsG}(h:chkL L=0):opI L L.n<=0:=by
 unfold chkL at h
 split at h
 ·omega
 split at h
 ·omega
 split at h
 ·omega
 split at h
 ·omega
 split at h
 ·omega
 split at h<;>omega
theorem op_step (L:LsG) (i:Nat):opI L i-1<=opI L (i+1):=by
 show opI L i-1<=(if (L.it i).kind=1 then opI L i+1 else if (L.it i).kind=2 then opI L i-1 else opI L i)
 split
 ·omega
 ·split<;>omega
theorem op_back {L:LsG}{i:Nat}:∀ m,opI L i<opI L (i+1)->opI L (i+1+m)<=opI L i->∃ k,i<k/\k<i+1+m/\opI L (k+1)=opI L i
 | 0,h1,h2=>absurd (show opI L (i+1)<=opI L i from h2) (by omega)
 | m+1,h1,h2=>by
  by_cases h:opI L (i+1+m)<=opI L i
  ·obtain ⟨k,k1,k2,k3⟩:=op_back m h1 h
   exact ⟨k,k1,by omega,k3⟩
  ·have:=op_step L (i+1+m)
   have h2:opI L (i+1+m+1)<=opI L i:=h2
   exact ⟨i+1+m,by omega,by omega,by omega⟩
theorem end_ok {L:LsG}(h:chkL L=0) {i:Nat}(hi:i<L.n) (hk:(L.it i).kind=1):EnOK ⟨L,i⟩/\i<EnG.r ⟨L,i⟩/\EnG.r ⟨L,i⟩<=L.n:=by
 have hc:=chk_ok h
 have h0:=(bld_d hc i (by omega)).1
 have he:=chk_end h
 have h1:opI L (i+1)=opI L i+1:=if_pos hk
 obtain ⟨k,k1,k2,k3⟩:=op_back (L:=L) (i:=i) (L.n-(i+1)) (by omega) (by rw [show i+1+(L.n-(i+1))=L.n by omega]; omega)
 have hr:=endR_in (L:=L) (o:=opI L i) (L.n-i) i ⟨k,by omega,by omega,k3⟩
 refine ⟨⟨hc.n,k,(show i<=k by omega),(show k<L.n by omega),k3⟩,?_,?_⟩
 ·show i<endR L (opI L i) (L.n-i) i
  have:endR L (opI L i) (L.n-i) i≠i:=fun e=>by
   have h3:=hr.2.2
   rw [e] at h3
   omega
  omega
 ·show endR L (opI L i) (L.n-i) i<=L.n
  omega
structure CoG where
 L:LsG
 i:Int
 x:Int
 y:Int
def CoG.to (g:CoG):Nat:=if (g.L.it g.i.toNat).kind=1 then EnG.r ⟨g.L,g.i.toNat⟩ else g.i.toNat+1
def covI (L:LsG) (x y:Int) (k:Nat):Prop:=(L.it k).kind=0/\(InG.mk (L.it k).nr (L.it k).runs x y).is
instance (L:LsG) (x y:Int) (k:Nat):Decidable (covI L x y k):=inferInstanceAs (Decidable (_/\_))
def CoG.cv (g:CoG) (m:Nat):Prop:=∃ k,k<m/\covI g.L g.x g.y (g.i.toNat+k)
instance (g:CoG) (m:Nat):Decidable (g.cv m):=inferInstanceAs (Decidable (∃ k,k<m/\_))
theorem cv_succ {g:CoG}{m:Nat}:g.cv (m+1)<->g.cv m\/covI g.L g.x g.y (g.i.toNat+m):=by
 constructor
 ·rintro ⟨k,h1,h2⟩
  by_cases e:k=m
  ·subst e; exact .inr h2
  ·exact .inl ⟨k,by omega,h2⟩
 ·rintro (⟨k,h1,h2⟩ | h)
  ·exact ⟨k,by omega,h2⟩
  ·exact ⟨m,by omega,h⟩
def CoG.e (g:CoG):Int:=if chkL g.L≠0 then chkL g.L else if g.i<0\/g.L.n<=g.i then 3 else if (g.L.it g.i.toNat).kind=2 then 14 else 0
def CoG.b (g:CoG):Bool:=decide (g.e=0)&&decide (g.cv (g.to-g.i.toNat))
def coI (g:CoG):Inv:=⟨Nat,fun k=>k<=g.to-g.i.toNat/\¬ g.cv k,fun k=>⟨[(2,.int .i64 g.x),(3,.int .i64 g.y),(47,.sl (g.to-g.i.toNat) 34 (fun a=>lst (itL (g.L.it (g.i.toNat+a))))),(48,.int .i64 (g.to-g.i.toNat:Nat)),(49,.int .i64 k)],[]⟩,fun k=>g.to-g.i.toNat-k⟩
def coC (g:CoG):Inv:=⟨Unit,fun _=>g.e=0/\0<=g.i/\g.i<g.to/\g.to<=g.L.n,fun _=>⟨[(1,.int .i64 g.i),(2,.int .i64 g.x),(3,.int .i64 g.y),(4,.own 0 0),(11,.int .i64 g.to)],[lsO g.L]⟩,fun _=>0⟩
def spCovL:FSpec:=mkSpec 8 (γ:=CoG) (fun | [.agg _ g,.int _ i,.int _ x,.int _ y]=>some ⟨lsD g,i,x,y⟩ | _=>none) (fun g=>[lsS g.L,.int .i64 g.i,.int .i64 g.x,.int .i64 g.y]) (fun g=>LsU8 g.L/\g.i<1000000) (fun g=> .tup 2 (lst [.bool g.b,.int .i64 g.e]))
set_option maxHeartbeats 1000000 in
theorem ok_covL:SpecOK Try.prog spCovL:=by
 refine spec_sound (specs:=[spLchk,spEndL,spIn]) (all_ok (⟨ok_lchk,ok_endL,ok_in,trivial⟩)) (eqs:=[]) (fun _ _ h=>(List.not_mem_nil h).elim) Aff.mixed Try.func8 rfl (by kernel_rfl) (fun _ _=>by kernel_rfl) (fun g=>(⟨[(12,.cut (coC g)),(13,.inv (coI g))],[]⟩:Ann)) (fun g=>Nat.le_of_ble_eq_true (by kernel_rfl)) ?_
 rintro ⟨L,i,x,y⟩ ⟨hL,hi⟩
 refine vc_of (B:=let T3:=fun p:Prop=>True/\True/\True/\p;let T4:=fun p:Prop=>True/\True/\True/\True/\p;let J:=Int.ofNat;let K:=Sx.Br;let A:=Sx.Ask;let z25:=(1:Int);let z21:=(0:Int);let z6:=(CoG.mk L i x y);let z18:=(True/\A (false=z6.b));let z14:=(↑(z6.to-i.toNat):Int);let z5:=(IntKind.u8=IntKind.u8);let q5:=fun p:Int=>A z5/\A (p=p);let z2:=(IntKind.i64=IntKind.i64);let q2:=fun p:Int=>A z2/\A (p=p);let z16:=(q2 y);let z15:=(q2 x);let z1:=(A (z6.to-i.toNat=z6.to-i.toNat)/\∀ i_1:Nat,let z3:=(L.it (i.toNat+i_1)); i_1<z6.to-i.toNat->(((((((((((((((((((((((((((((((((True/\q2 z3.kind)/\A (z3.nr=z3.nr)/\∀ i_2:Nat,let z20:=(z3.runs i_2); i_2<z3.nr->((True/\q2 z20.y)/\q2 z20.x0)/\q2 z20.x1)/\q2 z3.src.kind)/\q5 z3.src.ink.c0)/\q5 z3.src.ink.c1)/\q5 z3.src.ink.c2)/\q5 z3.src.ink.c3)/\q5 z3.src.ink.c4)/\q5 z3.src.ink.c5)/\q5 z3.src.ink.c6)/\q5 z3.src.ink.c7)/\q2 z3.src.fx)/\q2 z3.src.fy)/\q2 z3.src.tx)/\q2 z3.src.ty)/\q2 z3.src.rad)/\A (z3.src.ns=z3.src.ns)/\∀ i_2:Nat,let z12:=(z3.src.st i_2); i_2<z3.src.ns->((((((((True/\q2 z12.pos)/\q5 z12.ink.c0)/\q5 z12.ink.c1)/\q5 z12.ink.c2)/\q5 z12.ink.c3)/\q5 z12.ink.c4)/\q5 z12.ink.c5)/\q5 z12.ink.c6)/\q5 z12.ink.c7)/\q2 z3.src.img.w)/\q2 z3.src.img.h)/\A (z3.src.img.n=z3.src.img.n)/\∀ i_2:Nat,let z10:=(z3.src.img.px i_2); i_2<z3.src.img.n->(((((((True/\q5 z10.c0)/\q5 z10.c1)/\q5 z10.c2)/\q5 z10.c3)/\q5 z10.c4)/\q5 z10.c5)/\q5 z10.c6)/\q5 z10.c7)/\A (z3.src.img.sn=z3.src.img.sn)/\∀ i_2:Nat,i_2<z3.src.img.sn->True/\q5 (z3.src.img.sf i_2))/\q2 z3.src.img.m.a)/\q2 z3.src.img.m.b)/\q2 z3.src.img.m.c)/\q2 z3.src.img.m.d)/\q2 z3.src.img.m.e)/\q2 z3.src.img.m.f)/\A (z3.src.img.smooth=z3.src.img.smooth))/\A (z3.src.img.rep=z3.src.img.rep))/\q5 z3.alpha)/\q2 z3.blend)/\A (z3.over=z3.over))/\A (z3.iso=z3.iso))/\A (z3.knock=z3.knock));let z0:=((((True/\q2 L.w)/\q2 L.h)/\A (L.ni=L.ni)/\∀ i:Nat,i<L.ni->True/\A (L.nm i=L.nm i))/\A (L.n=L.n)/\∀ i:Nat,i<L.n->(((((((((((((((((((((((((((((((((True/\q2 ((L.it i).kind))/\A ((L.it i).nr=(L.it i).nr)/\∀ i_1:Nat,let z19:=((L.it i).runs i_1); i_1<(L.it i).nr->((True/\q2 z19.y)/\q2 z19.x0)/\q2 z19.x1)/\q2 ((L.it i).src.kind))/\q5 ((L.it i).src.ink.c0))/\q5 ((L.it i).src.ink.c1))/\q5 ((L.it i).src.ink.c2))/\q5 ((L.it i).src.ink.c3))/\q5 ((L.it i).src.ink.c4))/\q5 ((L.it i).src.ink.c5))/\q5 ((L.it i).src.ink.c6))/\q5 ((L.it i).src.ink.c7))/\q2 ((L.it i).src.fx))/\q2 ((L.it i).src.fy))/\q2 ((L.it i).src.tx))/\q2 ((L.it i).src.ty))/\q2 ((L.it i).src.rad))/\A ((L.it i).src.ns=(L.it i).src.ns)/\∀ i_1:Nat,let z9:=((L.it i).src.st i_1); i_1<(L.it i).src.ns->((((((((True/\q2 z9.pos)/\q5 z9.ink.c0)/\q5 z9.ink.c1)/\q5 z9.ink.c2)/\q5 z9.ink.c3)/\q5 z9.ink.c4)/\q5 z9.ink.c5)/\q5 z9.ink.c6)/\q5 z9.ink.c7)/\q2 ((L.it i).src.img.w))/\q2 ((L.it i).src.img.h))/\A ((L.it i).src.img.n=(L.it i).src.img.n)/\∀ i_1:Nat,let z8:=((L.it i).src.img.px i_1); i_1<(L.it i).src.img.n->(((((((True/\q5 z8.c0)/\q5 z8.c1)/\q5 z8.c2)/\q5 z8.c3)/\q5 z8.c4)/\q5 z8.c5)/\q5 z8.c6)/\q5 z8.c7)/\A ((L.it i).src.img.sn=(L.it i).src.img.sn)/\∀ i_1:Nat,i_1<(L.it i).src.img.sn->True/\q5 ((L.it i).src.img.sf i_1))/\q2 ((L.it i).src.img.m.a))/\q2 ((L.it i).src.img.m.b))/\q2 ((L.it i).src.img.m.c))/\q2 ((L.it i).src.img.m.d))/\q2 ((L.it i).src.img.m.e))/\q2 ((L.it i).src.img.m.f))/\A ((L.it i).src.img.smooth=(L.it i).src.img.smooth))/\A ((L.it i).src.img.rep=(L.it i).src.img.rep))/\q5 ((L.it i).alpha))/\q2 ((L.it i).blend))/\A ((L.it i).over=(L.it i).over))/\A ((L.it i).iso=(L.it i).iso))/\A ((L.it i).knock=(L.it i).knock));T4 (((z0/\True)/\A (∀ i:Nat,i<L.n->(L.it i).nr<=(9223372036854775807:Nat)))/\T3 (K (decide (Lcl.chkL L≠z21)) (T4 (z18/\A z2/\A (Lcl.chkL L=z6.e))) (T3 (K (decide (i<z21)) (T4 (z18/\A z2/\A ((3:Int)=z6.e))) (T4 (True/\True/\K (decide ((↑L.n:Int)<=i)) (T3 (z18/\A z2/\A ((3:Int)=z6.e))) (True/\A ((-9223372036854775808:Int)<=i+z25/\i+z25<=(9223372036854775807:Int))/\True/\(T3 (A (z21<=i/\i<(↑L.n:Int))/\T4 (K (decide ((L.it i.toNat).kind=(2:Int))) (T3 (z18/\A z2/\A ((14:Int)=z6.e))) (True/\True/\K (decide ((L.it i.toNat).kind=z25)) (True/\True/\((z0/\(A z2/\A (i=(↑i.toNat:Int)))/\True)/\A (EnOK (EnG.mk L i.toNat)))/\True/\∃ g:Unit,A ((coC z6).pre g)/\((q2 i)/\z15/\z16/\A ((0:Nat)=(0:Nat))/\(A z2/\A ((↑(EnG.mk L i.toNat).r:Int)=(↑z6.to:Int)))/\True)/\z0/\True) (∃ g:Unit,A ((coC z6).pre g)/\((q2 i)/\z15/\z16/\A ((0:Nat)=(0:Nat))/\(A z2/\A (i+z25=(↑z6.to:Int)))/\True)/\z0/\True)))))/\∀ g:Unit,(coC z6).pre g->T4 (A (z21<=i/\i<=J z6.to/\J z6.to<=J L.n/\J L.n<=(↑L.n:Int))/\True/\True/\(∃ g:Nat,A ((coI z6).pre g)/\(z15/\z16/\(A ((J z6.to-i).toNat=z6.to-i.toNat)/\∀ i_1:Nat,let z4:=(L.it (i.toNat+i_1)); i_1<z6.to-i.toNat->(((((((((((((((((((((((((((((((((True/\q2 z4.kind)/\A (z4.nr=z4.nr)/\∀ i_2:Nat,let z22:=(z4.runs i_2); i_2<z4.nr->((True/\q2 z22.y)/\q2 z22.x0)/\q2 z22.x1)/\q2 z4.src.kind)/\q5 z4.src.ink.c0)/\q5 z4.src.ink.c1)/\q5 z4.src.ink.c2)/\q5 z4.src.ink.c3)/\q5 z4.src.ink.c4)/\q5 z4.src.ink.c5)/\q5 z4.src.ink.c6)/\q5 z4.src.ink.c7)/\q2 z4.src.fx)/\q2 z4.src.fy)/\q2 z4.src.tx)/\q2 z4.src.ty)/\q2 z4.src.rad)/\A (z4.src.ns=z4.src.ns)/\∀ i_2:Nat,let z13:=(z4.src.st i_2); i_2<z4.src.ns->((((((((True/\q2 z13.pos)/\q5 z13.ink.c0)/\q5 z13.ink.c1)/\q5 z13.ink.c2)/\q5 z13.ink.c3)/\q5 z13.ink.c4)/\q5 z13.ink.c5)/\q5 z13.ink.c6)/\q5 z13.ink.c7)/\q2 z4.src.img.w)/\q2 z4.src.img.h)/\A (z4.src.img.n=z4.src.img.n)/\∀ i_2:Nat,let z11:=(z4.src.img.px i_2); i_2<z4.src.img.n->(((((((True/\q5 z11.c0)/\q5 z11.c1)/\q5 z11.c2)/\q5 z11.c3)/\q5 z11.c4)/\q5 z11.c5)/\q5 z11.c6)/\q5 z11.c7)/\A (z4.src.img.sn=z4.src.img.sn)/\∀ i_2:Nat,i_2<z4.src.img.sn->True/\q5 (z4.src.img.sf i_2))/\q2 z4.src.img.m.a)/\q2 z4.src.img.m.b)/\q2 z4.src.img.m.c)/\q2 z4.src.img.m.d)/\q2 z4.src.img.m.e)/\q2 z4.src.img.m.f)/\A (z4.src.img.smooth=z4.src.img.smooth))/\A (z4.src.img.rep=z4.src.img.rep))/\q5 z4.alpha)/\q2 z4.blend)/\A (z4.over=z4.over))/\A (z4.iso=z4.iso))/\A (z4.knock=z4.knock))/\(A z2/\A ((↑(J z6.to-i).toNat:Int)=z14))/\(A z2/\A (z21=(↑g:Int)))/\True)/\True)/\∀ g:Nat,let z24:=(↑g:Int);let z17:=((-9223372036854775808:Int)<=z24+z25/\z24+z25<=(9223372036854775807:Int));let z7:=(L.it (i.toNat+z24.toNat)); (coI z6).pre g->True/\K (decide (z24<z14)) (A (z21<=z24/\z24<z14)/\T4 (T3 (K (decide (z7.kind=z21)) (T4 ((((A (z7.nr=z7.nr)/\∀ i_1:Nat,let z23:=(z7.runs i_1); i_1<z7.nr->((True/\q2 z23.y)/\q2 z23.x0)/\q2 z23.x1)/\z15/\z16/\True)/\A (Lrd.BsOK (Lrd.BsG.mk z7.nr z7.runs (Lri.sOf (Rga.Rn.mk y x z21)))))/\True/\K (decide (Lri.InG.mk z7.nr z7.runs x y).is) (T3 ((True/\A (true=z6.b))/\A z2/\A (z21=z6.e))) (A z17/\True/\∃ (g':Nat),A ((coI z6).pre g')/\((z15/\z16/\z1/\(q2 z14)/\(A z2/\A (z24+z25=(↑g':Int)))/\True)/\True)/\A ((coI z6).meas g'<(coI z6).meas g)))) (True/\A z17/\True/\∃ (g':Nat),A ((coI z6).pre g')/\((z15/\z16/\z1/\(q2 z14)/\(A z2/\A (z24+z25=(↑g':Int)))/\True)/\True)/\A ((coI z6).meas g'<(coI z6).meas g))))) (T3 (z18/\A z2/\A (z21=z6.e)))))))))))) (by kernel_rfl) ?_
 simp only [ask_iff,br_iff,eq_self,true_and,and_true,implies_true,forall_const,decide_eq_true_eq,decide_eq_false_iff_not,ne_eq,Nat.mul_one,Nat.add_zero,Nat.zero_add]
 have hL:LsU8 L:=hL
 have hi:i<1000000:=hi
 simp only [Int.toNat_natCast]
 have bad:∀ v:Int,CoG.e ⟨L,i,x,y⟩=v->v≠0->false=CoG.b ⟨L,i,x,y⟩/\v=CoG.e ⟨L,i,x,y⟩:=fun v h hv=>by
  refine ⟨?_,h.symm⟩
  unfold CoG.b
  rw [h,decide_eq_false hv]
  rfl
 refine ⟨hL.nr,fun h=>bad _ (if_pos h) h,fun h=>?_⟩
 have h0:chkL L=0:=Classical.not_not.1 h
 have hc:=chk_ok h0
 have hn:=hc.n
 have b3:(i<0\/(L.n:Int)<=i)->CoG.e ⟨L,i,x,y⟩=3:=fun h2=>by
  unfold CoG.e; rw [if_neg (fun hc=>hc h0),if_pos h2]
 refine ⟨fun h1=>bad 3 (b3 (.inl h1)) (by decide),fun h1=>⟨fun h2=>bad 3 (b3 (.inr h2)) (by decide),fun h2=>⟨by omega,⟨by omega,fun h3=>?_,fun h3=>⟨fun h4=>?_,fun h4=>?_⟩⟩,fun _ hp=>?_⟩⟩⟩
 ·refine bad 14 ?_ (by decide)
  unfold CoG.e; rw [if_neg (fun hc=>hc h0),if_neg (by simp only; omega),if_pos h3]
 ·have he:CoG.e ⟨L,i,x,y⟩=0:=by
   unfold CoG.e; rw [if_neg (fun hc=>hc h0),if_neg (by simp only; omega),if_neg h3]
  have hto:CoG.to ⟨L,i,x,y⟩=EnG.r ⟨L,i.toNat⟩:=if_pos h4
  have hen:=end_ok h0 (i:=i.toNat) (by omega) h4
  exact ⟨⟨by omega,hen.1⟩,(),⟨he,by simp only; omega,by rw [hto]; simp only; omega,by rw [hto]; exact hen.2.2⟩,by rw [hto]⟩
 ·have he:CoG.e ⟨L,i,x,y⟩=0:=by
   unfold CoG.e; rw [if_neg (fun hc=>hc h0),if_neg (by simp only; omega),if_neg h3]
  have hto:CoG.to ⟨L,i,x,y⟩=i.toNat+1:=if_neg h4
  exact ⟨(),⟨he,by simp only; omega,by rw [hto]; simp only; omega,by rw [hto]; simp only; omega⟩,by rw [hto]; omega⟩
 ·obtain ⟨he,p1,p2,p3⟩:=hp
  have he:CoG.e ⟨L,i,x,y⟩=0:=he
  have p1:0<=i:=p1
  have p2:i<(CoG.to ⟨L,i,x,y⟩:Nat):=p2
  have p3:CoG.to ⟨L,i,x,y⟩<=L.n:=p3
  generalize hT:CoG.to ⟨L,i,x,y⟩=T at *
  have hb:CoG.b ⟨L,i,x,y⟩=decide (CoG.cv ⟨L,i,x,y⟩ (T-i.toNat)):=by
   unfold CoG.b; rw [he,hT]; rfl
  have eT:(Int.ofNat T-i).toNat=T-i.toNat:=by simp only [Int.ofNat_eq_natCast]; omega
  have no0:¬ CoG.cv ⟨L,i,x,y⟩ 0:=fun ⟨k,hk,_⟩=>absurd hk (Nat.not_lt_zero k)
  refine ⟨⟨p1,by simp only [Int.ofNat_eq_natCast]; omega,by simp only [Int.ofNat_eq_natCast]; omega,Int.le_refl _⟩,⟨0,⟨Nat.zero_le _,no0⟩,eT,by rw [eT],rfl⟩,fun k hk=>?_⟩
  obtain ⟨k1,k2⟩:=hk
  have k1:k<=T-i.toNat:=by rw [<-hT]; exact k1
  have k2:¬ CoG.cv ⟨L,i,x,y⟩ k:=k2
  refine ⟨fun hlt=>?_,fun hge=>?_⟩
  ·have hlt:k<T-i.toNat:=by omega
   have hmm:CoG.to ⟨L,i,x,y⟩-i.toNat-(k+1)<CoG.to ⟨L,i,x,y⟩-i.toNat-k:=by omega
   have nxt:¬ covI L x y (i.toNat+k)->(coI ⟨L,i,x,y⟩).pre (k+1):=fun hno=>⟨by show k+1<=CoG.to ⟨L,i,x,y⟩-i.toNat; omega,fun hcv=>(cv_succ.1 hcv).elim k2 hno⟩
   refine ⟨by omega,fun hk0=>⟨((fill_ok hc hL (by omega) hk0).2.mono _),fun hin=>?_,fun hin=>⟨by omega,k+1,nxt (fun hcc=>hin hcc.2),by simp,hmm⟩⟩,fun hk0=>⟨by omega,k+1,nxt (fun hcc=>hk0 hcc.1),by simp,hmm⟩⟩
   refine ⟨?_,he.symm⟩
   rw [hb]
   exact (decide_eq_true (show CoG.cv ⟨L,i,x,y⟩ (T-i.toNat) from ⟨k,hlt,hk0,hin⟩)).symm
  ·have:k=T-i.toNat:=by omega
   subst this
   exact ⟨by rw [hb]; exact (decide_eq_false k2).symm,he.symm⟩
end Go.Proofs.Ythappngbapbkfaa.Lat
set_option linter.unusedSimpArgs false
set_option linter.unusedVariables false
namespace Go.Proofs.Ythappngbapbkfaa.Lun
open Go.RowKit Sx Num Aff Afi Img Imh Imp Imq Rga Blend Ble Lsg Lta Lrd Lri Luc Lck Lgr Lcs Lst Lch Lcl Lgp Lsc Cmp Lpm Lpa Lpr Lbt Lpn Lpc Lpd Lpe Lpf Lrw Lto Lat
theorem in_iff {n:Nat}{f:Nat->Rn}(h:Vr n f) (x y:Int):covR f n x y<->(InG.mk n f x y).is:=by
 constructor
 ·rintro ⟨j,h1,h2,h3,h4⟩
  refine Classical.byContradiction fun hno=>?_
  exact (h.out hno).out j h1 h2 ⟨h3,h4⟩
 ·rintro ⟨h1,h2,h3,h4⟩
  exact ⟨_,h1,h2,h3,h4⟩
theorem any_false {m:Nat}{p:Nat->Bool}(h:∀ a,a<m->p a=false):(List.range m).any p=false:=by
 rw [List.any_eq_false]
 intro a ha
 rw [h a (by simpa using ha)]
 exact Bool.false_ne_true
theorem nd_cov {L:LsG}(h:LsOK L) {x y:Int}(hno:∀ t,t<L.n->(L.it t).kind=0->¬ covR (L.it t).runs (L.it t).nr x y):∀ f g,g<(bld L L.n).n->(bld L L.n).n<=g+f->(ndG L (bld L L.n) f g).cov x y=false:=by
 have hb:=bld_ok h L.n (Nat.le_refl _)
 have hl:=leaf_ok h L.n (Nat.le_refl _)
 intro f
 induction f with
 | zero=>intro g h1 h2; omega
 | succ f ih=>
  intro g hg hf
  show (List.range ((bld L L.n).m g)).any _=false
  refine any_false fun a ha=>?_
  show Nd.cov x y (match (bld L L.n).kid g a with
   | none=> .fill ((bld L L.n).leaf g a) (L.it ((bld L L.n).leaf g a))
   | some k=>ndG L (bld L L.n) f k)=false
  cases hk:(bld L L.n).kid g a with
  | none=>
   have:=hl g a hg ha hk
   exact decide_eq_false (hno _ this.1 this.2)
  | some k=>
   have:=hb.kid g a k hg ha hk
   exact ih k this.2 (by omega)
theorem pntK_no {k:Nat->Nd}{kn:Bool}{cx cy:Int}{c:Cl}:∀ m,(∀ a,a<m->(k a).cov cx cy=false)->pntK k kn cx cy c m=c
 | 0,_=>rfl
 | m+1,h=>by
  have ih:=pntK_no (k:=k) (kn:=kn) (cx:=cx) (cy:=cy) (c:=c) m (fun a ha=>h a (by omega))
  rw [pntK_succ,ih]
  have hm:=h m (by omega)
  cases hk:k m with
  | fill t x=>
   rw [hk] at hm
   unfold Nd.pnt
   exact if_neg (of_decide_eq_false hm)
  | grp t mx x n kd=>
   rw [hk] at hm
   unfold Nd.pnt
   unfold Nd.cov at hm
   rw [hm,if_neg Bool.false_ne_true]
theorem cell_no {L:LsG}(hc:ChkOK L) (hu:LsU8 L) {x y:Int}(hno:∀ t,t<L.n->(L.it t).kind=0->¬ (InG.mk (L.it t).nr (L.it t).runs x y).is) (j:Nat):cellI (ndP L) L.ni x y j=0:=by
 have hl:=ls_ok hc
 have hb:=bld_ok hl L.n (Nat.le_refl _)
 have hlf:=leaf_ok hl L.n (Nat.le_refl _)
 have hno2:∀ t,t<L.n->(L.it t).kind=0->¬ covR (L.it t).runs (L.it t).nr x y:=fun t ht hk=>fun hcv=>hno t ht hk ((in_iff (fill_ok hc hu ht hk).2 x y).1 hcv)
 have e:cellC (ndP L) x y=paperI:=by
  refine pntK_no _ fun a ha=>?_
  have ha:a<(bld L L.n).m 0:=ha
  show Nd.cov x y (match (bld L L.n).kid 0 a with
   | none=> .fill ((bld L L.n).leaf 0 a) (L.it ((bld L L.n).leaf 0 a))
   | some k=>ndG L (bld L L.n) (bld L L.n).n k)=false
  cases hk:(bld L L.n).kid 0 a with
  | none=>
   have:=hlf 0 a hb.n1 ha hk
   exact decide_eq_false (hno2 _ this.1 this.2)
  | some k=>
   have:=hb.kid 0 a k hb.n1 ha hk
   exact nd_cov hl hno2 _ k this.2 (by omega)
 unfold cellI
 split
 ·rw [e]
  unfold paperI
  exact if_neg (by omega)
 ·rfl
end Go.Proofs.Ythappngbapbkfaa.Lun
set_option linter.unusedSimpArgs false
set_option linter.unusedVariables false
namespace Go.Proofs.Ythappngbapbkfaa.Rgm
open Rga Rgl
def eY (f:Nat->Rn) (k:Nat):Int:=(f (k / 2)).y
abbrev le2 (y x y' x':Int):Prop:=y<y'\/(y=y'/\x<=x')
abbrev lt2 (y x y' x':Int):Prop:=y<y'\/(y=y'/\x<x')
structure CbG where
 a:Rg
 b:Rg
structure CsG where
 i:Nat
 j:Nat
 from':Rga.Eg
 L:List Rn
structure CbP (g:CbG) (K:Bool->Bool->Bool) (s:CsG):Prop where
 hi:s.i<=2*g.a.n
 hj:s.j<=2*g.b.n
 c1:0<s.i->le2 (eY g.a.f (s.i-1)) (eX g.a.f (s.i-1)) s.from'.y s.from'.x
 c2:0<s.j->le2 (eY g.b.f (s.j-1)) (eX g.b.f (s.j-1)) s.from'.y s.from'.x
 u1:0<s.i+s.j->s.i<2*g.a.n->le2 s.from'.y s.from'.x (eY g.a.f s.i) (eX g.a.f s.i)
 u2:0<s.i+s.j->s.j<2*g.b.n->le2 s.from'.y s.from'.x (eY g.b.f s.j) (eX g.b.f s.j)
 fok:(-8192<=s.from'.y/\s.from'.y<8192)/\ -8192<=s.from'.x/\s.from'.x<=8192
 hL:vld s.L
 hE:0<s.i+s.j->aftE s.L s.from'.y s.from'.x
 h0:s.i+s.j=0->s.L=[]
 hm:0<s.i+s.j->∀ y x,mem s.L y x=(decide (lt2 y x s.from'.y s.from'.x)&&K (mem g.a.L y x) (mem g.b.L y x))
end Go.Proofs.Ythappngbapbkfaa.Rgm
set_option linter.unusedSimpArgs false
set_option linter.unusedVariables false
namespace Go.Proofs.Ythappngbapbkfaa.Rgb
open Go.RowKit Sx Num Aff Con Rga Rgl Rgm
set_option maxRecDepth 100000
end Go.Proofs.Ythappngbapbkfaa.Rgb
set_option linter.unusedSimpArgs false
set_option linter.unusedVariables false
namespace Go.Proofs.Ythappngbapbkfaa.Rgn
open Rga Rgl Rgm
def sumR (f:Int->Int) (lo:Int):Nat->Int
 | 0=>0
 | n+1=>sumR f lo n+f (lo+n)
def b2i (b:Bool):Int:=if b then 1 else 0
def cnt (χ:Int->Int->Bool):Int:=sumR (fun y=>sumR (fun x=>b2i (χ y x)) (-8192) 16384) (-8192) 16384
def Lf (f:Nat->Rn) (n:Nat):List Rn:=(List.range n).map f
theorem Lf_succ (f:Nat->Rn) (n:Nat):Lf f (n+1)=Lf f n++[f n]:=by
 unfold Lf
 rw [List.range_succ,List.map_append]
 rfl
theorem Lf_len (f:Nat->Rn) (n:Nat):(Lf f n).length=n:=by simp [Lf]
theorem Lf_get (f:Nat->Rn) {n i:Nat}(h:i<n):rI (Lf f n) i=f i:=Rg.rI (g:=⟨n,f⟩) h
theorem add_new {L:List Rn}{r:Rn}(hr:r.x0<r.x1) (h:∀ s,L.getLast?=some s->ltR s r):addR L r=L++[r]:=by
 rcases last_cases L with rfl | ⟨P,s,rfl⟩
 ·rw [add_nil,if_pos hr]; rfl
 ·have hs:=h s (by simp)
  unfold ltR at hs
  rw [add_snoc,if_pos hr,if_neg (by omega)]
theorem Lf_last {f:Nat->Rn}{n:Nat}{s:Rn}(h:(Lf f n).getLast?=some s):0<n/\s=f (n-1):=by
 cases n with
 | zero=>cases h
 | succ n=>
  rw [Lf_succ] at h
  simp at h
  exact ⟨Nat.succ_pos n,h.symm⟩
theorem add_next {f:Nat->Rn}{n:Nat}(hr:(f n).x0<(f n).x1) (h:0<n->ltR (f (n-1)) (f n)):addR (Lf f n) (f n)=Lf f (n+1):=by
 rw [Lf_succ]
 refine add_new hr (fun s hs=>?_)
 obtain ⟨h0,rfl⟩:=Lf_last hs
 exact h h0
def shR (dx dy:Int) (r:Rn):Rn:=⟨r.y+dy,r.x0+dx,r.x1+dx⟩
structure JoP (f:Nat->Rn) (n i:Nat) (L:List Rn):Prop where
 hi:i<=n
 hL:vld L
 hm:∀ y x,mem L y x=mem (Lf f i) y x
 ha:∀ k,i<=k->k<n->aft L (f k).y (f k).x0
end Go.Proofs.Ythappngbapbkfaa.Rgn
set_option linter.unusedSimpArgs false
set_option linter.unusedVariables false
namespace Go.Proofs.Ythappngbapbkfaa.Rgc
open Go.RowKit Sx Num Aff Con Rga Rgl Rgm Rgn Rgb
set_option maxRecDepth 100000
def okP (s:SV):SV:= .tup 2 (lst [s,.int .i64 0])
structure EqG where
 a:Rg
 b:Rg
def EqG.ok (g:EqG):Prop:=vld g.a.L/\g.a.L=g.b.L
end Go.Proofs.Ythappngbapbkfaa.Rgc
set_option linter.unusedSimpArgs false
set_option linter.unusedVariables false
namespace Go.Proofs.Ythappngbapbkfaa.Rgd
open Go.RowKit Sx Num Aff Con Rga Rgl Rgm Rgn Rgb Rgc
set_option maxRecDepth 100000
structure ShG where
 g:Rg
 dx:Int
 dy:Int
def ShG.f (h:ShG):Nat->Rn:=fun i=>shR h.dx h.dy (h.g.f i)
structure ShG.ok (h:ShG):Prop where
 v:vld h.g.L
 x : -16384<=h.dx/\h.dx<=16384
 y : -16384<=h.dy/\h.dy<=16384
 r:∀ i,i<h.g.n->okR (h.f i)
def ShG.L (h:ShG):List Rn:=Lf h.f h.g.n
structure ReG where
 x0:Int
 y0:Int
 x1:Int
 y1:Int
def ReG.f (h:ReG):Nat->Rn:=fun k=>⟨h.y0+k,h.x0,h.x1⟩
def ReG.n (h:ReG):Nat:=(h.y1-h.y0).toNat
structure ReG.ok (h:ReG):Prop where
 x0 : -8192<=h.x0/\h.x0<=8192
 y0 : -8192<=h.y0/\h.y0<=8192
 x1 : -8192<=h.x1/\h.x1<=8192
 y1 : -8192<=h.y1/\h.y1<=8192
 x:h.x0<h.x1
 y:h.y0<=h.y1
def reInv (h:ReG):Inv:=⟨Nat,fun i=>h.y0+i<=h.y1,fun i=>⟨[(0,.int .i64 h.x0),(2,.int .i64 h.x1),(3,.int .i64 h.y1),(10,.own 0 0),(11,.int .i64 (h.y0+i))],
  [.cells 1 (lst [.osl 1 0]) 112,.row 0 i 3 (fun k=>lst (rnL (h.f k))) 71]⟩,fun i=>h.n-i⟩
def spRect:FSpec:=mkSpec 29 (γ:=ReG) (fun | [.int _ x0,.int _ y0,.int _ x1,.int _ y1]=>some ⟨x0,y0,x1,y1⟩ | _=>none) (fun h=>[.int .i64 h.x0,.int .i64 h.y0,.int .i64 h.x1,.int .i64 h.y1]) ReG.ok (fun h=>okP (runsS (Lf h.f h.n)))
theorem ok_rect:SpecOK Try.prog spRect:=by
 refine spec_sound (specs:=[spBorder,spAddR]) (all_ok (⟨ok_border,ok_addR,trivial⟩)) (eqs:=[]) (fun _ _ h=>(List.not_mem_nil h).elim) Aff.mixed Try.func29 rfl (by kernel_rfl) (fun _ _=>by kernel_rfl) (fun g=>(⟨[(7,.inv (reInv g))],[(6,[.ownC 0 0 71 3])]⟩:Ann)) (fun g=>Nat.le_of_ble_eq_true (by kernel_rfl)) ?_
 rintro g hg
 refine vc_of (B:=let T3:=fun p:Prop=>True/\True/\True/\p;let T4:=fun p:Prop=>True/\True/\True/\True/\p;let K:=Sx.Br;let A:=Sx.Ask;let z9:=((0:Nat)=(0:Nat));let z7:=((3:Int)=(0:Int));let z5:=(Rgn.Lf g.f g.n);let z2:=(True/\A (z5.length=(0:Nat)));let z0:=(IntKind.i64=IntKind.i64);let q0:=fun p:Int=>A z0/\A (p=p);let z6:=(q0 g.y1);let z4:=(q0 g.x1);let z3:=(q0 g.x0);T3 (((z3/\True)/\A True)/\True/\True/\K (!(decide ((-8192:Int)<=g.x0)&&decide (g.x0<=(8192:Int)))) (T4 (T4 (z2/\A z0/\A z7))) (True/\(((q0 g.y0)/\True)/\A True)/\T3 (K (!(decide ((-8192:Int)<=g.y0)&&decide (g.y0<=(8192:Int)))) (T4 (True/\True/\z2/\A z0/\A z7)) (True/\((z4/\True)/\A True)/\T3 (K (!(decide ((-8192:Int)<=g.x1)&&decide (g.x1<=(8192:Int)))) (T4 (z2/\A z0/\A z7)) (True/\((z6/\True)/\A True)/\True/\True/\K (!(decide ((-8192:Int)<=g.y1)&&decide (g.y1<=(8192:Int)))) (T3 (z2/\A z0/\A z7)) (T4 (K (decide (g.x1<g.x0)) (T4 (z2/\A z0/\A ((18:Int)=(0:Int)))) (T4 (K (decide (g.y1<g.y0)) (T3 (z2/\A z0/\A ((18:Int)=(0:Int)))) (T3 ((∃ g_1:Nat,A ((reInv g).pre g_1)/\(z3/\z4/\z6/\A z9/\(A z0/\A (g.y0=g.y0+(↑g_1:Int)))/\True)/\(True/\True)/\(A ((0:Nat)=g_1)/\∀ i:Nat,i<g_1->((True/\False)/\False)/\False)/\True)/\∀ g_1:Nat,let z8:=(↑g_1:Int);let z1:=(Rga.AdG.mk g_1 (fun (i:Nat)=>Rga.Rn.mk (g.y0+(↑i:Int)) g.x0 g.x1) (Rga.Rn.mk (g.y0+z8) g.x0 g.x1)); (reInv g).pre g_1->T3 (K (decide (g.y0+z8<g.y1)) (T3 (((True/\(A z9/\(q0 (g.y0+z8))/\z3/\z4/\True)/\(True/\True)/\(A (g_1=g_1)/\∀ i:Nat,i<g_1->((True/\q0 (g.y0+(↑i:Int)))/\q0 g.x0)/\q0 g.x1)/\True)/\A (g_1<=(4294967296:Nat)))/\True/\A ((-9223372036854775808:Int)<=g.y0+z8+(1:Int)/\g.y0+z8+(1:Int)<=(9223372036854775807:Int))/\True/\∃ (g':Nat),A ((reInv g).pre g')/\((z3/\z4/\z6/\A z9/\(A z0/\A (g.y0+z8+(1:Int)=g.y0+(↑g':Int)))/\True)/\(True/\True)/\(A (z1.L.length=g')/\∀ i:Nat,i<g'->((True/\A z0/\A ((Rga.rI z1.L i).y=g.y0+(↑i:Int)))/\A z0/\A ((Rga.rI z1.L i).x0=g.x0))/\A z0/\A ((Rga.rI z1.L i).x1=g.x1))/\True)/\A ((reInv g).meas g'<(reInv g).meas g_1))) (T4 (True/\(True/\A (g_1=z5.length)/\∀ i:Nat,i<z5.length->((True/\A z0/\A (g.y0+(↑i:Int)=(Rga.rI z5 i).y))/\A z0/\A (g.x0=(Rga.rI z5 i).x0))/\A z0/\A (g.x1=(Rga.rI z5 i).x1))/\q0 ((0:Int)))))))))))))))))) (by kernel_rfl) ?_
 simp only [ask_iff,br_iff,eq_self,true_and,and_true,implies_true,forall_const,decide_eq_true_eq,decide_eq_false_iff_not,ne_eq,Nat.mul_one,Nat.add_zero,Nat.zero_add]
 obtain ⟨⟨a1,a2⟩,⟨b1,b2⟩,⟨c1,c2⟩,⟨d1,d2⟩,hx,hy⟩:=hg
 rw [decide_eq_true a1,decide_eq_true a2,decide_eq_true b1,decide_eq_true b2,decide_eq_true c1,decide_eq_true c2,decide_eq_true d1,decide_eq_true d2]
 refine ⟨fun h=>absurd h (by decide),fun _=>⟨fun h=>absurd h (by decide),fun _=>⟨fun h=>absurd h (by decide),fun _=>⟨fun h=>absurd h (by decide),fun _=>⟨fun h=>by omega,fun _=>⟨fun h=>by omega,fun _=>⟨⟨0,by show g.y0+0<=g.y1; omega,by omega,rfl,fun k hk=>absurd hk (Nat.not_lt_zero _)⟩,fun i hi=>⟨fun hlt=>?_,fun hge=>?_⟩⟩⟩⟩⟩⟩⟩⟩
 ·have hi:g.y0+i<=g.y1:=hi
  have e:AdG.L ⟨i,fun i=>⟨g.y0+i,g.x0,g.x1⟩,⟨g.y0+i,g.x0,g.x1⟩⟩=Lf g.f (i+1):=by
   refine add_next (f:=g.f) (n:=i) hx (fun h0=> .inl ?_)
   show g.y0+((i-1:Nat):Int)<g.y0+i
   omega
  refine ⟨by omega,by omega,i+1,?_,⟨by omega,?_,fun k hk=>?_⟩,?_⟩
  ·show g.y0+((i+1:Nat):Int)<=g.y1
   omega
  ·rw [e,Lf_len]
  ·rw [e,Lf_get g.f hk]
   exact ⟨⟨rfl,rfl⟩,rfl⟩
  ·show (g.y1-g.y0).toNat-(i+1)<(g.y1-g.y0).toNat-i
   omega
 ·have hi:g.y0+i<=g.y1:=hi
  have e:i=g.n:=by unfold ReG.n; omega
  subst e
  rw [Lf_len]
  refine ⟨rfl,fun k hk=>?_⟩
  rw [Lf_get g.f hk]
  exact ⟨⟨rfl,rfl⟩,rfl⟩
end Go.Proofs.Ythappngbapbkfaa.Rgd
set_option linter.unusedSimpArgs false
set_option linter.unusedVariables false
namespace Go.Proofs.Ythappngbapbkfaa.Lsh
open Go.RowKit Sx Num Aff Afi Img Imh Imp Imq Rga Blend Ble Lsg Lta Lrd Lri Luc Lck Lgr Lcs Lst Lch Lcl Lgp Lsc Cmp Lpm Lpa Lpr Lbt Lpn Lpc Lpd Lpe Lpf Lrw Lto Lat Lun
set_option maxRecDepth 100000
structure WhG where
 w:Nat
 h:Nat
def pgF (w:Nat) (k:Nat):Rn:=⟨k,0,16*w⟩
def spPage:FSpec:=mkSpec 18 (γ:=WhG) (fun | [.int _ w,.int _ h]=>some ⟨w.toNat,h.toNat⟩ | _=>none) (fun g=>[.int .i64 g.w,.int .i64 g.h]) (fun g=>(1<=g.w/\g.w<=2)/\1<=g.h/\g.h<=2) (fun g=>rgS ⟨16*g.h,pgF g.w⟩)
theorem ok_page:SpecOK Try.prog spPage:=by
 refine spec_sound (specs:=[Rgd.spRect]) (all_ok (⟨Rgd.ok_rect,trivial⟩)) (eqs:=[]) (fun _ _ h=>(List.not_mem_nil h).elim) Aff.mixed Try.func18 rfl (by kernel_rfl) (fun _ _=>by kernel_rfl) (fun g=>A0) (fun g=>Nat.le_of_ble_eq_true (by kernel_rfl)) ?_
 rintro ⟨w,h⟩ ⟨⟨w1,w2⟩,h1,h2⟩
 refine vc_of (B:=let A:=Sx.Ask;let z2:=(16:Int);let z1:=(IntKind.i64=IntKind.i64);let q1:=fun p:Int=>A z1/\A (p=p);let z4:=(q1 ((0:Int)));let z0:=(Rgd.ReG.mk (0:Int) (0:Int) (z2*(↑w:Int)) (z2*(↑h:Int)));True/\True/\A ((-9223372036854775808:Int)<=z2*(↑w:Int)/\z2*(↑w:Int)<=(9223372036854775807:Int))/\True/\A ((-9223372036854775808:Int)<=z2*(↑h:Int)/\z2*(↑h:Int)<=(9223372036854775807:Int))/\((z4/\z4/\(q1 (z2*(↑w:Int)))/\(q1 (z2*(↑h:Int)))/\True)/\A z0.ok)/\True/\True/\True/\True/\True/\True/\True/\True/\A ((Rgn.Lf z0.f z0.n).length=(16:Nat)*h)/\∀ i:Nat,let z3:=(Rga.rI (Rgn.Lf z0.f z0.n) i); i<(16:Nat)*h->((True/\A z1/\A (z3.y=(↑i:Int)))/\A z1/\A (z3.x0=(0:Int)))/\A z1/\A (z3.x1=z2*(↑w:Int))) (by kernel_rfl) ?_
 simp only [ask_iff,br_iff,eq_self,true_and,and_true,implies_true,forall_const,decide_eq_true_eq,decide_eq_false_iff_not,ne_eq,Nat.mul_one,Nat.add_zero,Nat.zero_add]
 have w1:1<=w:=w1
 have w2:w<=2:=w2
 have h1:1<=h:=h1
 have h2:h<=2:=h2
 have en:Rgd.ReG.n ⟨0,0,16*w,16*h⟩=16*h:=by unfold Rgd.ReG.n; simp only; omega
 rw [en]
 refine ⟨by omega,by omega,⟨by simp only; omega,by simp only; omega,by simp only; omega,by simp only; omega,by simp only; omega,by simp only; omega⟩,Rgn.Lf_len _ _,fun i hi=>?_⟩
 rw [Rgn.Lf_get _ hi]
 exact ⟨⟨Int.zero_add _,rfl⟩,rfl⟩
structure PlnG where
 w:Nat
 h:Nat
 v:Ink
def plN (i:Nat):ByteArray:=⟨#[UInt8.ofNat (97+i)]⟩
def plI (g:PlnG):It:={ zIt with nr:=16*g.h,runs:=pgF g.w,src:={ zSrc with ink:=g.v },alpha:=255 }
def plL (g:PlnG):LsG:=⟨g.w,g.h,8,plN,1,fun _=>plI g⟩
def spPln:FSpec:=mkSpec 10 (γ:=PlnG) (fun | [.int _ w,.int _ h,.agg _ v]=>some ⟨w.toNat,h.toNat,inkD v⟩ | _=>none) (fun g=>[.int .i64 g.w,.int .i64 g.h,.agg 8 (lst (inkL g.v))]) (fun g=>(1<=g.w/\g.w<=2)/\1<=g.h/\g.h<=2) (fun g=>lsS (plL g))
theorem ok_pln:SpecOK Try.prog spPln:=by
 refine spec_sound (specs:=[spPage]) (all_ok (⟨ok_page,trivial⟩)) (eqs:=[]) (fun _ _ h=>(List.not_mem_nil h).elim) Aff.mixed Try.func10 rfl (by kernel_rfl) (fun _ _=>by kernel_rfl) (fun g=>A0) (fun g=>Nat.le_of_ble_eq_true (by kernel_rfl)) ?_
 rintro ⟨w,h,v⟩ ⟨⟨w1,w2⟩,h1,h2⟩
 refine vc_of (B:=let A:=Sx.Ask;let z6:=(↑h:Int);let z5:=((0:Nat)=(0:Nat));let z4:=(↑w:Int);let z3:=(false=false);let z2:=(IntKind.u8=IntKind.u8);let q2:=fun p:Int=>A z2/\A (p=p);let z1:=((0:Int)=(0:Int));let z0:=(IntKind.i64=IntKind.i64);let q0:=fun p:Int=>A z0/\A (p=p);True/\True/\True/\True/\True/\True/\True/\(((A z0/\A (z4=(↑z4.toNat:Int)))/\(A z0/\A (z6=(↑z6.toNat:Int)))/\True)/\A (((1:Nat)<=z4.toNat/\z4.toNat<=(2:Nat))/\(1:Nat)<=z6.toNat/\z6.toNat<=(2:Nat)))/\True/\True/\True/\True/\True/\True/\(True/\True)/\(((True/\q0 z4)/\q0 z6)/\A ((8:Nat)=(8:Nat))/\∀ i:Nat,i<(8:Nat)->True/\A ((bif decide (i=(7:Nat)) then ByteArray.mk #[(104:UInt8)] else bif decide (i=(6:Nat)) then ByteArray.mk #[(103:UInt8)] else bif decide (i=(5:Nat)) then ByteArray.mk #[(102:UInt8)] else bif decide (i=(4:Nat)) then ByteArray.mk #[(101:UInt8)] else bif decide (i=(3:Nat)) then ByteArray.mk #[(100:UInt8)] else bif decide (i=(2:Nat)) then ByteArray.mk #[(99:UInt8)] else bif decide (i=(1:Nat)) then ByteArray.mk #[(98:UInt8)] else ByteArray.mk #[(97:UInt8)])=(plL (PlnG.mk w h v)).nm i))/\A ((1:Nat)=(1:Nat))/\∀ i:Nat,i<(1:Nat)->(((((((((((((((((((((((((((((((((True/\A z0/\A z1)/\A ((16:Nat)*z6.toNat=(16:Nat)*h)/\∀ i:Nat,i<(16:Nat)*h->((True/\q0 ((↑i:Int)))/\A z0/\A z1)/\A z0/\A ((16:Int)*(↑z4.toNat:Int)=(16:Int)*z4))/\A z0/\A z1)/\q2 v.c0)/\q2 v.c1)/\q2 v.c2)/\q2 v.c3)/\q2 v.c4)/\q2 v.c5)/\q2 v.c6)/\q2 v.c7)/\A z0/\A z1)/\A z0/\A z1)/\A z0/\A z1)/\A z0/\A z1)/\A z0/\A z1)/\A z5)/\A z0/\A z1)/\A z0/\A z1)/\A z5)/\A z5)/\A z0/\A z1)/\A z0/\A z1)/\A z0/\A z1)/\A z0/\A z1)/\A z0/\A z1)/\A z0/\A z1)/\A z3)/\A z3)/\q2 ((255:Int)))/\A z0/\A z1)/\A z3)/\A z3)/\A z3) (by kernel_rfl) ?_
 simp only [ask_iff,br_iff,eq_self,true_and,and_true,implies_true,forall_const,decide_eq_true_eq,decide_eq_false_iff_not,ne_eq,Nat.mul_one,Nat.add_zero,Nat.zero_add]
 have w1:1<=w:=w1
 have w2:w<=2:=w2
 have h1:1<=h:=h1
 have h2:h<=2:=h2
 exact ⟨⟨⟨by omega,by omega⟩,by omega,by omega⟩,lt8 rfl rfl rfl rfl rfl rfl rfl rfl,fun _ _=>⟨by omega,fun _ _=>by omega⟩⟩
def shG:PlnG:=⟨1,1,⟨200,0,0,0,0,0,0,0⟩⟩
def shA:AtL:=⟨plL shG,3,3⟩
abbrev eqL:List (TypeId×List CK):=[(33,[.int,.int,.int,.int,.int,.int,.int,.int])]
theorem eqL_ok:AllEq Try.prog eqL:=⟨eqOK_of (m:=8) (by kernel_rfl) (by kernel_rfl) rfl (by decide) (by kernel_rfl),trivial⟩
theorem sh_v:shA.v 0=200/\shA.v 1=0/\shA.v 2=0/\shA.v 3=0/\shA.v 4=0/\shA.v 5=0/\shA.v 6=0/\shA.v 7=0:=by
 refine ⟨?_,?_,?_,?_,?_,?_,?_,?_⟩<;>kernel_rfl
theorem pl_u8 {g:PlnG}(hv:u8i g.v) (hh:g.h<=2):LsU8 (plL g):=⟨fun _ _=>show 0<=(255:Int)/\(255:Int)<=255 from ⟨by decide,by decide⟩,fun _ _=>hv,fun _ _ j hj=>absurd hj (Nat.not_lt_zero j),fun _ _ j hj=>absurd hj (Nat.not_lt_zero j),fun _ _ j hj=>absurd hj (Nat.not_lt_zero j),fun _ _=>show 16*g.h<=9223372036854775807 by omega⟩
theorem sh_u8:LsU8 (plL shG):=pl_u8 (by unfold shG u8i; decide) (by decide)
def spShown:FSpec:=mkSpec 4 (γ:=Unit) (fun _=>some ()) (fun _=>[]) (fun _=>True) (fun _=> .bool true)
theorem ok_shown:SpecOK Try.prog spShown:=by
 refine spec_sound (specs:=[spPln,spAtL]) (all_ok (⟨ok_pln,ok_atL,trivial⟩)) (eqs:=eqL) (all_eq eqL_ok) Aff.mixed Try.func4 rfl (by kernel_rfl) (fun _ _=>by kernel_rfl) (fun g=>A0) (fun g=>Nat.le_of_ble_eq_true (by kernel_rfl)) ?_
 rintro _ _
 refine vc_of (B:=let K:=Int.toNat;let A:=Sx.Ask;let z13:=(200:Int);let z12:=(false=false);let z11:=(1:Int);let z8:=(0:Nat);let z7:=(1:Nat);let z5:=(K z11);let z10:=(↑z5:Int);let z4:=(0:Int);let z15:=(Img.Ink.mk z13 z4 z4 z4 z4 z4 z4 z4);let z9:=(plL (PlnG.mk z5 z5 z15));let z3:=(IntKind.i64=IntKind.i64);let q3:=fun p:Int=>A z3/\A (p=p);let z14:=(q3 ((3:Int)));let z2:=(IntKind.u8=IntKind.u8);let q2:=fun p:Int=>A z2/\A (p=p);let z1:=(z4=z4);let z0:=(Lsg.LsG.mk z10 z10 (8:Nat) (fun (i:Nat)=>Lsg.strOf (Sx.SV.str (z9.nm i))) z7 fun (i:Nat)=>Lsg.It.mk z4 ((16:Nat)*K z11) (fun (i:Nat)=>Rga.Rn.mk (↑i:Int) z4 ((16:Int)*z10)) (Lsg.Src.mk z4 z15 z4 z4 z4 z4 z4 z8 (fun (i:Nat)=>Lsg.Stp.mk z4 (Img.Ink.mk z4 z4 z4 z4 z4 z4 z4 z4)) (Img.ImgG.mk z4 z4 z8 (fun (i:Nat)=>Img.Ink.mk z4 z4 z4 z4 z4 z4 z4 z4) z8 (fun (x:Nat)=>z4) (Aff.Mat.mk z4 z4 z4 z4 z4 z4) false false)) (255:Int) z4 false false false);let z6:=(Lat.AtL.mk z0 (3:Int) (3:Int));True/\True/\(((A z3/\A (z11=z10))/\(A z3/\A (z11=z10))/\((((((((True/\q2 z13)/\A z2/\A z1)/\A z2/\A z1)/\A z2/\A z1)/\A z2/\A z1)/\A z2/\A z1)/\A z2/\A z1)/\A z2/\A z1)/\True)/\A ((z7<=K z11/\K z11<=(2:Nat))/\z7<=K z11/\K z11<=(2:Nat)))/\((((((True/\q3 z10)/\q3 z10)/\A ((8:Nat)=(8:Nat))/\∀ i:Nat,i<(8:Nat)->True/\A (z9.nm i=Lsg.strOf (Sx.SV.str (z9.nm i))))/\A (z7=z7)/\∀ i:Nat,i<z7->(((((((((((((((((((((((((((((((((True/\A z3/\A z1)/\A ((16:Nat)*K z11=(16:Nat)*K z11)/\∀ i:Nat,i<(16:Nat)*K z11->((True/\q3 ((↑i:Int)))/\A z3/\A z1)/\q3 ((16:Int)*z10))/\A z3/\A z1)/\q2 z13)/\A z2/\A z1)/\A z2/\A z1)/\A z2/\A z1)/\A z2/\A z1)/\A z2/\A z1)/\A z2/\A z1)/\A z2/\A z1)/\A z3/\A z1)/\A z3/\A z1)/\A z3/\A z1)/\A z3/\A z1)/\A z3/\A z1)/\A (z8=z8)/\∀ i:Nat,i<z8->((((((((True/\A z3/\A z1)/\A z2/\A z1)/\A z2/\A z1)/\A z2/\A z1)/\A z2/\A z1)/\A z2/\A z1)/\A z2/\A z1)/\A z2/\A z1)/\A z2/\A z1)/\A z3/\A z1)/\A z3/\A z1)/\A (z8=z8)/\∀ i:Nat,i<z8->(((((((True/\A z2/\A z1)/\A z2/\A z1)/\A z2/\A z1)/\A z2/\A z1)/\A z2/\A z1)/\A z2/\A z1)/\A z2/\A z1)/\A z2/\A z1)/\A (z8=z8)/\∀ i:Nat,i<z8->True/\A z2/\A z1)/\A z3/\A z1)/\A z3/\A z1)/\A z3/\A z1)/\A z3/\A z1)/\A z3/\A z1)/\A z3/\A z1)/\A z12)/\A z12)/\q2 ((255:Int)))/\A z3/\A z1)/\A z12)/\A z12)/\A z12)/\z14/\z14/\True)/\A (Lto.LsU8 z0))/\True/\True/\True/\True/\True/\True/\True/\True/\True/\True/\True/\True/\True/\True/\True/\A ((decide (z6.v (z8+z8)=z13)&&(decide (z6.v (z8+(z8+z7))=z4)&&(decide (z6.v (z8+(z8+z7+z7))=z4)&&(decide (z6.v (z8+(z8+z7+z7+z7))=z4)&&(decide (z6.v (z8+(z8+z7+z7+z7+z7))=z4)&&(decide (z6.v (z8+(z8+z7+z7+z7+z7+z7))=z4)&&(decide (z6.v (z8+(z8+z7+z7+z7+z7+z7+z7))=z4)&&(decide (z6.v (z8+(z8+z7+z7+z7+z7+z7+z7+z7))=z4)&&true))))))))=true)) (by kernel_rfl) ?_
 simp only [ask_iff,br_iff,eq_self,true_and,and_true,implies_true,forall_const,decide_eq_true_eq,decide_eq_false_iff_not,ne_eq,Nat.mul_one,Nat.add_zero,Nat.zero_add]
 obtain ⟨v0,v1,v2,v3,v4,v5,v6,v7⟩:=sh_v
 refine ⟨⟨⟨rfl,rfl⟩,⟨by decide,by decide⟩,by decide,by decide⟩,⟨fun _ _=>rfl,sh_u8⟩,?_⟩
 show (decide (shA.v 0=200)&&(decide (shA.v 1=0)&&(decide (shA.v 2=0)&&(decide (shA.v 3=0)&&(decide (shA.v 4=0)&&(decide (shA.v 5=0)&&(decide (shA.v 6=0)&&(decide (shA.v 7=0)&&true))))))))=true
 rw [v0,v1,v2,v3,v4,v5,v6,v7]
 rfl
def tinyL (L:LsG):LsG:={ L with w:=cutI L.w 1 2,h:=cutI L.h 1 2,n:=if 12<L.n then 12 else L.n }
def spTiny:FSpec:=mkSpec 5 (γ:=LsG) (fun | [.agg _ g]=>some (lsD g) | _=>none) (fun g=>[lsS g]) (fun _=>True) (fun g=>lsS (tinyL g))
theorem ok_tiny:SpecOK Try.prog spTiny:=by
 refine spec_sound (specs:=[spCut]) (all_ok (⟨ok_cut,trivial⟩)) (eqs:=[]) (fun _ _ h=>(List.not_mem_nil h).elim) Aff.mixed Try.func5 rfl (by kernel_rfl) (fun _ _=>by kernel_rfl) (fun g=>A0) (fun g=>Nat.le_of_ble_eq_true (by kernel_rfl)) ?_
 rintro L _
 refine vc_of (B:=let K:=Int.ofNat;let A:=Sx.Ask;let z17:=(2:Int);let z16:=(1:Int);let z15:=(12:Nat);let z6:=(((-2305843009213693952:Int)<=z16/\z16<=z17)/\z17<=(4611686018427387903:Int)/\z17-z16<=(4611686018427387903:Int));let z2:=(IntKind.u8=IntKind.u8);let z1:=(IntKind.i64=IntKind.i64);let q1:=fun p:Int=>A z1/\A (p=p);let z5:=(((True/\q1 (cutI L.w z16 z17))/\q1 (cutI L.h z16 z17))/\A (L.ni=L.ni)/\∀ i:Nat,i<L.ni->True/\A (L.nm i=(tinyL L).nm i));True/\True/\True/\True/\(((q1 L.w)/\(q1 z16)/\(q1 z17)/\True)/\A z6)/\True/\True/\(((q1 L.h)/\(q1 z16)/\(q1 z17)/\True)/\A z6)/\True/\True/\True/\True/\True/\True/\True/\True/\Sx.Br (decide ((12:Int)<(↑L.n:Int))) (True/\True/\A ((0:Int)<=K (0:Nat)/\K (0:Nat)<=K z15/\K z15<=K L.n/\K L.n<=(↑L.n:Int))/\True/\True/\True/\True/\(True/\True)/\z5/\A ((K z15-K (0:Nat)).toNat=if z15<L.n then z15 else L.n)/\∀ i:Nat,let z3:=((tinyL L).it i);let z0:=(L.it ((K (0:Nat)).toNat+i)); (i<if z15<L.n then z15 else L.n)->(((((((((((((((((((((((((((((((((True/\A z1/\A (z0.kind=z3.kind))/\A (z0.nr=z3.nr)/\∀ i_1:Nat,i_1<z3.nr->((True/\A z1/\A ((z0.runs i_1).y=(z3.runs i_1).y))/\A z1/\A ((z0.runs i_1).x0=(z3.runs i_1).x0))/\A z1/\A ((z0.runs i_1).x1=(z3.runs i_1).x1))/\A z1/\A (z0.src.kind=z3.src.kind))/\A z2/\A (z0.src.ink.c0=z3.src.ink.c0))/\A z2/\A (z0.src.ink.c1=z3.src.ink.c1))/\A z2/\A (z0.src.ink.c2=z3.src.ink.c2))/\A z2/\A (z0.src.ink.c3=z3.src.ink.c3))/\A z2/\A (z0.src.ink.c4=z3.src.ink.c4))/\A z2/\A (z0.src.ink.c5=z3.src.ink.c5))/\A z2/\A (z0.src.ink.c6=z3.src.ink.c6))/\A z2/\A (z0.src.ink.c7=z3.src.ink.c7))/\A z1/\A (z0.src.fx=z3.src.fx))/\A z1/\A (z0.src.fy=z3.src.fy))/\A z1/\A (z0.src.tx=z3.src.tx))/\A z1/\A (z0.src.ty=z3.src.ty))/\A z1/\A (z0.src.rad=z3.src.rad))/\A (z0.src.ns=z3.src.ns)/\∀ i_1:Nat,let z13:=(z3.src.st i_1);let z12:=(z0.src.st i_1); i_1<z3.src.ns->((((((((True/\A z1/\A (z12.pos=z13.pos))/\A z2/\A (z12.ink.c0=z13.ink.c0))/\A z2/\A (z12.ink.c1=z13.ink.c1))/\A z2/\A (z12.ink.c2=z13.ink.c2))/\A z2/\A (z12.ink.c3=z13.ink.c3))/\A z2/\A (z12.ink.c4=z13.ink.c4))/\A z2/\A (z12.ink.c5=z13.ink.c5))/\A z2/\A (z12.ink.c6=z13.ink.c6))/\A z2/\A (z12.ink.c7=z13.ink.c7))/\A z1/\A (z0.src.img.w=z3.src.img.w))/\A z1/\A (z0.src.img.h=z3.src.img.h))/\A (z0.src.img.n=z3.src.img.n)/\∀ i_1:Nat,let z10:=(z3.src.img.px i_1);let z9:=(z0.src.img.px i_1); i_1<z3.src.img.n->(((((((True/\A z2/\A (z9.c0=z10.c0))/\A z2/\A (z9.c1=z10.c1))/\A z2/\A (z9.c2=z10.c2))/\A z2/\A (z9.c3=z10.c3))/\A z2/\A (z9.c4=z10.c4))/\A z2/\A (z9.c5=z10.c5))/\A z2/\A (z9.c6=z10.c6))/\A z2/\A (z9.c7=z10.c7))/\A (z0.src.img.sn=z3.src.img.sn)/\∀ i_1:Nat,i_1<z3.src.img.sn->True/\A z2/\A (z0.src.img.sf i_1=z3.src.img.sf i_1))/\A z1/\A (z0.src.img.m.a=z3.src.img.m.a))/\A z1/\A (z0.src.img.m.b=z3.src.img.m.b))/\A z1/\A (z0.src.img.m.c=z3.src.img.m.c))/\A z1/\A (z0.src.img.m.d=z3.src.img.m.d))/\A z1/\A (z0.src.img.m.e=z3.src.img.m.e))/\A z1/\A (z0.src.img.m.f=z3.src.img.m.f))/\A (z0.src.img.smooth=z3.src.img.smooth))/\A (z0.src.img.rep=z3.src.img.rep))/\A z2/\A (z0.alpha=z3.alpha))/\A z1/\A (z0.blend=z3.blend))/\A (z0.over=z3.over))/\A (z0.iso=z3.iso))/\A (z0.knock=z3.knock)) (True/\True/\(True/\True)/\z5/\A (L.n=if z15<L.n then z15 else L.n)/\∀ i:Nat,let z4:=((tinyL L).it i); (i<if z15<L.n then z15 else L.n)->(((((((((((((((((((((((((((((((((True/\A z1/\A ((L.it i).kind=z4.kind))/\A ((L.it i).nr=z4.nr)/\∀ i_1:Nat,i_1<z4.nr->((True/\A z1/\A (((L.it i).runs i_1).y=(z4.runs i_1).y))/\A z1/\A (((L.it i).runs i_1).x0=(z4.runs i_1).x0))/\A z1/\A (((L.it i).runs i_1).x1=(z4.runs i_1).x1))/\A z1/\A ((L.it i).src.kind=z4.src.kind))/\A z2/\A ((L.it i).src.ink.c0=z4.src.ink.c0))/\A z2/\A ((L.it i).src.ink.c1=z4.src.ink.c1))/\A z2/\A ((L.it i).src.ink.c2=z4.src.ink.c2))/\A z2/\A ((L.it i).src.ink.c3=z4.src.ink.c3))/\A z2/\A ((L.it i).src.ink.c4=z4.src.ink.c4))/\A z2/\A ((L.it i).src.ink.c5=z4.src.ink.c5))/\A z2/\A ((L.it i).src.ink.c6=z4.src.ink.c6))/\A z2/\A ((L.it i).src.ink.c7=z4.src.ink.c7))/\A z1/\A ((L.it i).src.fx=z4.src.fx))/\A z1/\A ((L.it i).src.fy=z4.src.fy))/\A z1/\A ((L.it i).src.tx=z4.src.tx))/\A z1/\A ((L.it i).src.ty=z4.src.ty))/\A z1/\A ((L.it i).src.rad=z4.src.rad))/\A ((L.it i).src.ns=z4.src.ns)/\∀ i_1:Nat,let z14:=(z4.src.st i_1);let z8:=((L.it i).src.st i_1); i_1<z4.src.ns->((((((((True/\A z1/\A (z8.pos=z14.pos))/\A z2/\A (z8.ink.c0=z14.ink.c0))/\A z2/\A (z8.ink.c1=z14.ink.c1))/\A z2/\A (z8.ink.c2=z14.ink.c2))/\A z2/\A (z8.ink.c3=z14.ink.c3))/\A z2/\A (z8.ink.c4=z14.ink.c4))/\A z2/\A (z8.ink.c5=z14.ink.c5))/\A z2/\A (z8.ink.c6=z14.ink.c6))/\A z2/\A (z8.ink.c7=z14.ink.c7))/\A z1/\A ((L.it i).src.img.w=z4.src.img.w))/\A z1/\A ((L.it i).src.img.h=z4.src.img.h))/\A ((L.it i).src.img.n=z4.src.img.n)/\∀ i_1:Nat,let z11:=(z4.src.img.px i_1);let z7:=((L.it i).src.img.px i_1); i_1<z4.src.img.n->(((((((True/\A z2/\A (z7.c0=z11.c0))/\A z2/\A (z7.c1=z11.c1))/\A z2/\A (z7.c2=z11.c2))/\A z2/\A (z7.c3=z11.c3))/\A z2/\A (z7.c4=z11.c4))/\A z2/\A (z7.c5=z11.c5))/\A z2/\A (z7.c6=z11.c6))/\A z2/\A (z7.c7=z11.c7))/\A ((L.it i).src.img.sn=z4.src.img.sn)/\∀ i_1:Nat,i_1<z4.src.img.sn->True/\A z2/\A ((L.it i).src.img.sf i_1=z4.src.img.sf i_1))/\A z1/\A ((L.it i).src.img.m.a=z4.src.img.m.a))/\A z1/\A ((L.it i).src.img.m.b=z4.src.img.m.b))/\A z1/\A ((L.it i).src.img.m.c=z4.src.img.m.c))/\A z1/\A ((L.it i).src.img.m.d=z4.src.img.m.d))/\A z1/\A ((L.it i).src.img.m.e=z4.src.img.m.e))/\A z1/\A ((L.it i).src.img.m.f=z4.src.img.m.f))/\A ((L.it i).src.img.smooth=z4.src.img.smooth))/\A ((L.it i).src.img.rep=z4.src.img.rep))/\A z2/\A ((L.it i).alpha=z4.alpha))/\A z1/\A ((L.it i).blend=z4.blend))/\A ((L.it i).over=z4.over))/\A ((L.it i).iso=z4.iso))/\A ((L.it i).knock=z4.knock))) (by kernel_rfl) ?_
 simp only [ask_iff,br_iff,eq_self,true_and,and_true,implies_true,forall_const,decide_eq_true_eq,decide_eq_false_iff_not,ne_eq,Nat.mul_one,Nat.add_zero,Nat.zero_add]
 refine ⟨⟨⟨by decide,by decide⟩,by decide,by decide⟩,⟨⟨by decide,by decide⟩,by decide,by decide⟩,fun h=>?_,fun h=>?_⟩
 ·have h:12<L.n:=by omega
  refine ⟨⟨by decide,by decide,by simp only [Int.ofNat_eq_natCast]; omega,by simp⟩,fun _ _=>rfl,by rw [if_pos h]; rfl,fun i hi=>?_⟩
  have e:L.it ((Int.ofNat 0).toNat+i)=(tinyL L).it i:=by show L.it (0+i)=L.it i; rw [Nat.zero_add]
  rw [e]
  repeat' first | exact rfl | apply And.intro | intro _
 ·have h:¬ 12<L.n:=by omega
  refine ⟨fun _ _=>rfl,by rw [if_neg h],fun i hi=>?_⟩
  repeat' first | exact rfl | apply And.intro | intro _
end Go.Proofs.Ythappngbapbkfaa.Lsh
namespace Go.Proofs.Ythappngbapbkfaa.Sx
open Go.RowKit
end Go.Proofs.Ythappngbapbkfaa.Sx
set_option linter.unusedSimpArgs false
set_option linter.unusedVariables false
namespace Go.Proofs.Ythappngbapbkfaa.Sx
open Go.RowKit
theorem R_sl {α:Type}{c:α->List Value}{sz:Nat}{w:World}{X:Nat->Prop}{v:Value}{xs:List α}{g:Nat->Nat->SV}(hsz:0<sz) (h:Sl c sz w v xs) (hX:∀ b,¬ X b)
  (hR:∀ i j (hi:i<xs.length),j<sz->∃ u,(c xs[i])[j]?=some u/\oneCell u/\R w X E0 (g i j) u):R w X E0 (.sl xs.length sz g) v:=by
 obtain ⟨p,cap,rfl,h1,h2,h3⟩:=h
 by_cases h0:xs=[]
 ·subst h0; exact .sl0
 rcases h3 with h3 | ⟨b,off,rfl,hcell⟩
 ·exact absurd h3 h0
 have hpos:0<xs.length:=List.length_pos_iff.2 h0
 obtain ⟨u0,hu0,_⟩:=hR 0 0 hpos hsz
 have hcell0:=(hcell 0 0 hpos hsz).trans hu0
 cases hb:w.heap[b]? with
 | none=>simp [World.cell?,hb] at hcell0
 | some o=>
  cases o<;>simp only [World.cell?,hb,reduceCtorEq] at hcell0<;>try (simp at hcell0; done)
  rename_i cc T fr
  have hget:∀ i j (hi:i<xs.length),j<sz->off+i*sz+j<cc.size/\∃ u,cc.getD (off+i*sz+j) undef=u/\oneCell u/\R w X E0 (g i j) u:=by
   intro i j hi hj
   obtain ⟨u,hu1,hu2,hu3⟩:=hR i j hi hj
   have h4:=(hcell i j hi hj).trans hu1
   simp only [World.cell?,hb,Option.isSome_none,Bool.false_eq_true,if_false] at h4
   have hlt:off+i*sz+j<cc.size:=by
    refine Classical.byContradiction fun hc=>?_
    rw [Array.getElem?_eq_none (Nat.not_lt.1 hc)] at h4
    cases h4
   refine ⟨hlt,u,?_,hu2,hu3⟩
   rw [Array.getD_eq_getD_getElem?,h4]
   rfl
  have hlast:=(hget (xs.length-1) (sz-1) (by omega) (by omega)).1
  have e1:(xs.length-1)*sz+sz=xs.length*sz:=by
   obtain ⟨m,hm⟩:∃ m,xs.length=m+1:=⟨xs.length-1,by omega⟩
   rw [hm,Nat.add_sub_cancel,Nat.succ_mul]
  refine .sl hb (hX b) (by omega) h1 (fun i j hi hj=>?_) fun i j hi hj=>?_
  ·obtain ⟨_,u,hu,hu2,_⟩:=hget i j hi hj
   rw [hu]; exact hu2
  ·obtain ⟨_,u,hu,_,hu3⟩:=hget i j hi hj
   rw [hu]; exact hu3
theorem leafs_ints {P:Program}{w:World}{t:TypeId}{k:IntKind}(ht:P.underlying t=some (.int k)):∀ (n:Nat) (cs:List Value),All2 (Leaf P w) (List.replicate n t) cs->
  (cs.map fun v=>intOf (ofV v)).map (Value.int k)=cs/\(cs.map fun v=>intOf (ofV v)).length=n/\∀ x∈cs.map fun v=>intOf (ofV v),(Lit.int k x).wf=true
 | 0,cs,h=>by
  obtain rfl:=All2.nil_inv h
  exact ⟨rfl,rfl,fun x hx=>absurd hx (by simp)⟩
 | n+1,cs,h=>by
  obtain ⟨y,m,rfl,e1,l1⟩:=All2.cons_inv h
  obtain ⟨z,rfl,hw⟩:=leaf_int ht e1
  obtain ⟨h1,h2,h3⟩:=leafs_ints ht n m l1
  refine ⟨?_,by simp only [List.map_cons,List.length_cons]; rw [h2],fun x hx=>?_⟩
  ·simp only [List.map_cons]
   rw [h1]
   rfl
  ·simp only [List.map_cons,List.mem_cons] at hx
   rcases hx with rfl | hx
   ·exact hw
   ·exact h3 x hx
theorem leaf_rows {P:Program}{w:World}{T e t:TypeId}{v:Value}{k:IntKind}(n:Nat) (hu:P.underlying T=some (.slice e)) (ht:P.underlying t=some (.int k)) (hk:P.cellsOf e=n) (hn:0<n)
  (hl:leaves P 20 e=some (List.replicate n t)) (h:Leaf P w T v) :
  ∃ (len:Nat) (f:Nat->Nat->Int),(∀ g:Nat->Nat->SV,(∀ i j,j<n->g i j = .int k (f i j))->R w (fun _=>False) E0 (.sl len n g) v)/\(∀ i j,i<len->j<n->(Lit.int k (f i j)).wf=true)/\len<=maxLen:=by
 obtain ⟨xs,h3,h4,h5⟩:=sl_of_leaf (c:=fun l:List Int=>l.map (Value.int k)) (mk:=fun cs=>cs.map fun v=>intOf (ofV v)) (ok:=fun l=>l.length=n/\∀ x∈l,(Lit.int k x).wf=true) hu hk hn hl (fun cs hcs=>leafs_ints ht n cs hcs) h
 have hx:∀ i (hi:i<xs.length) j,j<n->∃ hj:j<(xs[i]).length,(xs.getD i []).getD j 0=(xs[i])[j]:=fun i hi j hj=>by
  have hl:=(h4 xs[i] (List.getElem_mem hi)).1
  refine ⟨by omega,?_⟩
  have e1:xs.getD i []=xs[i]:=by rw [List.getD_eq_getElem?_getD,List.getElem?_eq_getElem hi]; rfl
  rw [e1,List.getD_eq_getElem?_getD,List.getElem?_eq_getElem (by omega)]
  rfl
 refine ⟨xs.length,fun i j=>(xs.getD i []).getD j 0,fun g hg=>R_sl hn h3 (fun _=>id) fun i j hi hj=>?_,fun i j hi hj=>?_,h5⟩
 ·obtain ⟨hj',he⟩:=hx i hi j hj
  refine ⟨.int k (xs[i])[j],by simp [hj'],rfl,?_⟩
  rw [hg i j hj]
  show R w _ E0 (.int k ((xs.getD i []).getD j 0)) _
  rw [he]
  exact .int
 ·obtain ⟨hj',he⟩:=hx i hi j hj
  show (Lit.int k ((xs.getD i []).getD j 0)).wf=true
  rw [he]
  exact (h4 xs[i] (List.getElem_mem hi)).2 _ (List.getElem_mem hj')
end Go.Proofs.Ythappngbapbkfaa.Sx
set_option linter.unusedSimpArgs false
set_option linter.unusedVariables false
namespace Go.Proofs.Ythappngbapbkfaa.Lli
open Go.RowKit Sx Num Aff Afi Img Imh Imp Imq Rga Blend Ble Lsg Lta Lrd Lri Luc Lck Lgr Lcs Lst Lch Lcl Lgp Lsc Cmp Lpm Lto
theorem all2_get {P:Program}{w:World}:∀ {ls:List TypeId}{cs:List Value},All2 (Leaf P w) ls cs->∀ (j:Nat) (t:TypeId),ls[j]?=some t->∃ v,cs[j]?=some v/\Leaf P w t v
 | [],cs,h,j,t,hj=>by simp at hj
 | a::ls,cs,h,j,t,hj=>by
  obtain ⟨y,m,rfl,e1,l1⟩:=All2.cons_inv h
  cases j with
  | zero=>simp at hj; subst hj; exact ⟨y,rfl,e1⟩
  | succ j=>exact all2_get l1 j t (by simpa using hj)
def iV (v:Value):Int:=Sx.intOf (ofV v)
def bV (v:Value):Bool:=boolOf (ofV v)
theorem R_int {w X E k} {t:TypeId}{v:Value}(ht:Try.prog.underlying t=some (.int k)) (h:Leaf Try.prog w t v):R w X E (.int k (iV v)) v/\oneCell v/\(Lit.int k (iV v)).wf=true:=by
 obtain ⟨n,rfl,hn⟩:=leaf_int ht h
 exact ⟨.int,rfl,hn⟩
theorem R_bool {w X E} {t:TypeId}{v:Value}(ht:Try.prog.underlying t=some .bool) (h:Leaf Try.prog w t v):R w X E (.bool (bV v)) v/\oneCell v:=by
 obtain ⟨b,rfl⟩:=leaf_bool ht h
 exact ⟨.bool,rfl⟩
theorem one_slice {w} {t e:TypeId}{v:Value}(ht:Try.prog.underlying t=some (.slice e)) (h:Leaf Try.prog w t v):oneCell v:=by
 rcases leaf_slice ht h with rfl | ⟨a,len,cap,rfl,_⟩<;>exact rfl
abbrev tI:TypeId:=3
abbrev tU:TypeId:=5
abbrev tB:TypeId:=4
abbrev tRS:TypeId:=31
abbrev tSS:TypeId:=36
abbrev tPS:TypeId:=37
abbrev tUS:TypeId:=38
theorem uI:Try.prog.underlying tI=some (.int .i64):=by kernel_rfl
theorem uU:Try.prog.underlying tU=some (.int .u8):=by kernel_rfl
theorem uB:Try.prog.underlying tB=some .bool:=by kernel_rfl
theorem u8_of {n:Int}(h:(Lit.int .u8 n).wf=true):0<=n/\n<=255:=wf_u8 h
instance:Inhabited Rn:=⟨⟨0,0,0⟩⟩
instance:Inhabited Ink:=⟨z8⟩
instance:Inhabited Stp:=⟨⟨0,z8⟩⟩
theorem ch {β:Type} [Inhabited β] {p:Value->Prop}{q:Value->β->Prop}(h:∀ v,p v->∃ r,q v r):∃ F:Value->β,∀ v,p v->q v (F v):=by
 have:∀ v:Value,∃ r:β,p v->q v r:=fun v=>by
  by_cases hv:p v
  ·obtain ⟨r,hr⟩:=h v hv
   exact ⟨r,fun _=>hr⟩
  ·exact ⟨default,fun hc=>absurd hc hv⟩
 exact Classical.axiomOfChoice this
theorem runs_of {w:World}(v:Value) (h:Leaf Try.prog w tRS v):∃ r:Nat×(Nat->Rn),R w (fun _=>False) E0 (.sl r.1 3 (fun i=>lst (rnL (r.2 i)))) v/\r.1<=maxLen:=by
 obtain ⟨len,f,hR,_,hlen⟩:=leaf_rows (k:= .i64) (t:=tI) (e:=71) 3 (by kernel_rfl) uI (by kernel_rfl) (by decide) (by kernel_rfl) h
 exact ⟨(len,fun i=>⟨f i 0,f i 1,f i 2⟩),hR _ (fun i j hj=>match j,hj with | 0,_=>rfl | 1,_=>rfl | 2,_=>rfl),hlen⟩
theorem pix_of {w:World}(v:Value) (h:Leaf Try.prog w tPS v):∃ r:Nat×(Nat->Ink),R w (fun _=>False) E0 (.sl r.1 8 (fun i=>lst (inkL (r.2 i)))) v/\r.1<=maxLen/\∀ i,i<r.1->inkOk (r.2 i):=by
 obtain ⟨len,f,hR,hw,hlen⟩:=leaf_rows (k:= .u8) (t:=tU) (e:=33) 8 (by kernel_rfl) uU (by kernel_rfl) (by decide) (by kernel_rfl) h
 refine ⟨(len,fun i=>⟨f i 0,f i 1,f i 2,f i 3,f i 4,f i 5,f i 6,f i 7⟩),hR _ (fun i j hj=>match j,hj with | 0,_=>rfl | 1,_=>rfl | 2,_=>rfl | 3,_=>rfl | 4,_=>rfl | 5,_=>rfl | 6,_=>rfl | 7,_=>rfl),hlen,fun i hi=>?_⟩
 have g:=fun j hj=>u8_of (hw i j hi hj)
 exact ⟨⟨g 0 (by decide),g 1 (by decide),g 2 (by decide),g 3 (by decide)⟩,g 4 (by decide),g 5 (by decide),g 6 (by decide),g 7 (by decide)⟩
theorem soft_of {w:World}(v:Value) (h:Leaf Try.prog w tUS v):∃ r:Nat×(Nat->Int),R w (fun _=>False) E0 (.sl r.1 1 (fun i _=> .int .u8 (r.2 i))) v/\r.1<=maxLen/\∀ i,i<r.1->0<=r.2 i/\r.2 i<=255:=by
 obtain ⟨len,f,hR,hw,hlen⟩:=leaf_rows (k:= .u8) (t:=tU) (e:=tU) 1 (by kernel_rfl) uU (by kernel_rfl) (by decide) (by kernel_rfl) h
 exact ⟨(len,fun i=>f i 0),hR _ (fun i j hj=>match j,hj with | 0,_=>rfl),hlen,fun i hi=>u8_of (hw i 0 hi (by decide))⟩
theorem stops_of {w:World}(v:Value) (h:Leaf Try.prog w tSS v):∃ r:Nat×(Nat->Stp),R w (fun _=>False) E0 (.sl r.1 9 (fun i=>lst (stpL (r.2 i)))) v/\r.1<=maxLen/\∀ i,i<r.1->u8i (r.2 i).ink:=by
 obtain ⟨xs,h3,h4,h5⟩:=sl_of_leaf (n:=20) (e:=89) (ls:=[tI,tU,tU,tU,tU,tU,tU,tU,tU]) (α:=List Value) (c:=id) (mk:=id) (ok:=fun cs=>All2 (Leaf Try.prog w) [tI,tU,tU,tU,tU,tU,tU,tU,tU] cs)
  (by kernel_rfl) (show Try.prog.cellsOf 89=9 by kernel_rfl) (by decide) (by kernel_rfl) (fun cs hcs=>⟨rfl,hcs⟩) h
 have hx:∀ i (hi:i<xs.length),xs.getD i []=xs[i]:=fun i hi=>by rw [List.getD_eq_getElem?_getD,List.getElem?_eq_getElem hi]; rfl
 refine ⟨(xs.length,fun i=>⟨iV ((xs.getD i []).getD 0 undef),⟨iV ((xs.getD i []).getD 1 undef),iV ((xs.getD i []).getD 2 undef),iV ((xs.getD i []).getD 3 undef),iV ((xs.getD i []).getD 4 undef),iV ((xs.getD i []).getD 5 undef),iV ((xs.getD i []).getD 6 undef),iV ((xs.getD i []).getD 7 undef),iV ((xs.getD i []).getD 8 undef)⟩⟩),R_sl (by decide) h3 (fun _=>id) fun i j hi hj=>?_,h5,fun i hi=>?_⟩
 ·have ha:=h4 xs[i] (List.getElem_mem hi)
  have go:∀ {k:IntKind}{t:TypeId}(j:Nat),Try.prog.underlying t=some (.int k)->[tI,tU,tU,tU,tU,tU,tU,tU,tU][j]?=some t->∃ u,(id xs[i])[j]?=some u/\oneCell u/\R w (fun _=>False) E0 (.int k (iV ((xs.getD i []).getD j undef))) u:=fun {k t} j ht hjt=>by
   obtain ⟨u,hu,hl⟩:=all2_get ha j t hjt
   obtain ⟨r1,r2,_⟩:=R_int (w:=w) (X:=fun _=>False) (E:=E0) ht hl
   have e:(xs.getD i []).getD j undef=u:=by rw [hx i hi,List.getD_eq_getElem?_getD,hu]; rfl
   exact ⟨u,hu,r2,e▸r1⟩
  match j,hj with
  | 0,_=>exact go 0 uI rfl
  | 1,_=>exact go 1 uU rfl
  | 2,_=>exact go 2 uU rfl
  | 3,_=>exact go 3 uU rfl
  | 4,_=>exact go 4 uU rfl
  | 5,_=>exact go 5 uU rfl
  | 6,_=>exact go 6 uU rfl
  | 7,_=>exact go 7 uU rfl
  | 8,_=>exact go 8 uU rfl
 ·have hi:i<xs.length:=hi
  have ha:=h4 xs[i] (List.getElem_mem hi)
  have go:∀ (j:Nat),[tI,tU,tU,tU,tU,tU,tU,tU,tU][j]?=some tU->0<=iV ((xs.getD i []).getD j undef)/\iV ((xs.getD i []).getD j undef)<=255:=fun j hjt=>by
   obtain ⟨u,hu,hl⟩:=all2_get ha j tU hjt
   obtain ⟨_,_,r3⟩:=R_int (w:=w) (X:=fun _=>False) (E:=E0) uU hl
   have e:(xs.getD i []).getD j undef=u:=by rw [hx i hi,List.getD_eq_getElem?_getD,hu]; rfl
   rw [e]
   exact u8_of r3
  exact ⟨⟨go 1 rfl,go 2 rfl,go 3 rfl,go 4 rfl⟩,go 5 rfl,go 6 rfl,go 7 rfl,go 8 rfl⟩
abbrev itT:List TypeId:=[tI,tRS,tI,tU,tU,tU,tU,tU,tU,tU,tU,tI,tI,tI,tI,tI,tSS,tI,tI,tPS,tUS,tI,tI,tI,tI,tI,tI,tB,tB,tU,tI,tB,tB,tB]
structure It8 (x:It):Prop where
 alpha:0<=x.alpha/\x.alpha<=255
 ink:u8i x.src.ink
 st:∀ j,j<x.src.ns->u8i (x.src.st j).ink
 px:∀ j,j<x.src.img.n->inkOk (x.src.img.px j)
 sf:∀ j,j<x.src.img.sn->0<=x.src.img.sf j/\x.src.img.sf j<=255
 nr:x.nr<=9223372036854775807
def mkIt (FR:Value->Nat×(Nat->Rn)) (FS:Value->Nat×(Nat->Stp)) (FP:Value->Nat×(Nat->Ink)) (FU:Value->Nat×(Nat->Int)) (c:Nat->Value):It:=
 ⟨iV (c 0),(FR (c 1)).1,(FR (c 1)).2,⟨iV (c 2),⟨iV (c 3),iV (c 4),iV (c 5),iV (c 6),iV (c 7),iV (c 8),iV (c 9),iV (c 10)⟩,iV (c 11),iV (c 12),iV (c 13),iV (c 14),iV (c 15),(FS (c 16)).1,(FS (c 16)).2,
  ⟨iV (c 17),iV (c 18),(FP (c 19)).1,(FP (c 19)).2,(FU (c 20)).1,(FU (c 20)).2,⟨iV (c 21),iV (c 22),iV (c 23),iV (c 24),iV (c 25),iV (c 26)⟩,bV (c 27),bV (c 28)⟩⟩,iV (c 29),iV (c 30),bV (c 31),bV (c 32),bV (c 33)⟩
theorem leaf_items {w:World}{v:Value}(h:Leaf Try.prog w 23 v) :
  ∃ (n:Nat) (it:Nat->It),R w (fun _=>False) E0 (.sl n 34 (fun i=>lst (itL (it i)))) v/\n<=maxLen/\∀ i,i<n->It8 (it i):=by
 obtain ⟨xs,h3,h4,h5⟩:=sl_of_leaf (n:=20) (e:=46) (ls:=itT) (α:=List Value) (c:=id) (mk:=id) (ok:=fun cs=>All2 (Leaf Try.prog w) itT cs)
  (by kernel_rfl) (show Try.prog.cellsOf 46=34 by kernel_rfl) (by decide) (by kernel_rfl) (fun cs hcs=>⟨rfl,hcs⟩) h
 obtain ⟨FR,hR⟩:=ch (runs_of (w:=w))
 obtain ⟨FS,hS⟩:=ch (β:=Nat×(Nat->Stp)) (stops_of (w:=w))
 obtain ⟨FP,hP⟩:=ch (β:=Nat×(Nat->Ink)) (pix_of (w:=w))
 obtain ⟨FU,hU⟩:=ch (soft_of (w:=w))
 have hx:∀ i (hi:i<xs.length),xs.getD i []=xs[i]:=fun i hi=>by rw [List.getD_eq_getElem?_getD,List.getElem?_eq_getElem hi]; rfl
 have get:∀ i (hi:i<xs.length) (j:Nat) (t:TypeId),itT[j]?=some t->∃ u,(id xs[i])[j]?=some u/\Leaf Try.prog w t u/\(xs.getD i []).getD j undef=u:=fun i hi j t ht=>by
  obtain ⟨u,hu,hl⟩:=all2_get (h4 xs[i] (List.getElem_mem hi)) j t ht
  exact ⟨u,hu,hl,by rw [hx i hi,List.getD_eq_getElem?_getD,hu]; rfl⟩
 refine ⟨xs.length,fun i=>mkIt FR FS FP FU (fun j=>(xs.getD i []).getD j undef),R_sl (by decide) h3 (fun _=>id) fun i j hi hj=>?_,h5,fun i hi=>?_⟩
 ·have gi:∀ {k:IntKind}{t:TypeId}(j:Nat),Try.prog.underlying t=some (.int k)->itT[j]?=some t->∃ u,(id xs[i])[j]?=some u/\oneCell u/\R w (fun _=>False) E0 (.int k (iV ((xs.getD i []).getD j undef))) u:=fun {k t} j ht hjt=>by
   obtain ⟨u,hu,hl,e⟩:=get i hi j t hjt
   obtain ⟨r1,r2,_⟩:=R_int (w:=w) (X:=fun _=>False) (E:=E0) ht hl
   exact ⟨u,hu,r2,e▸r1⟩
  have gb:∀ (j:Nat),itT[j]?=some tB->∃ u,(id xs[i])[j]?=some u/\oneCell u/\R w (fun _=>False) E0 (.bool (bV ((xs.getD i []).getD j undef))) u:=fun j hjt=>by
   obtain ⟨u,hu,hl,e⟩:=get i hi j tB hjt
   obtain ⟨r1,r2⟩:=R_bool (w:=w) (X:=fun _=>False) (E:=E0) uB hl
   exact ⟨u,hu,r2,e▸r1⟩
  match j,hj with
  | 0,_=>exact gi 0 uI rfl
  | 1,_=>
   obtain ⟨u,hu,hl,e⟩:=get i hi 1 tRS rfl
   exact ⟨u,hu,one_slice (e:=71) (by kernel_rfl) hl,(e▸(hR u hl).1:R w (fun _=>False) E0 (.sl (FR ((xs.getD i []).getD 1 undef)).1 3 (fun i'=>lst (rnL ((FR ((xs.getD i []).getD 1 undef)).2 i')))) u)⟩
  | 2,_=>exact gi 2 uI rfl
  | 3,_=>exact gi 3 uU rfl
  | 4,_=>exact gi 4 uU rfl
  | 5,_=>exact gi 5 uU rfl
  | 6,_=>exact gi 6 uU rfl
  | 7,_=>exact gi 7 uU rfl
  | 8,_=>exact gi 8 uU rfl
  | 9,_=>exact gi 9 uU rfl
  | 10,_=>exact gi 10 uU rfl
  | 11,_=>exact gi 11 uI rfl
  | 12,_=>exact gi 12 uI rfl
  | 13,_=>exact gi 13 uI rfl
  | 14,_=>exact gi 14 uI rfl
  | 15,_=>exact gi 15 uI rfl
  | 16,_=>
   obtain ⟨u,hu,hl,e⟩:=get i hi 16 tSS rfl
   exact ⟨u,hu,one_slice (e:=89) (by kernel_rfl) hl,(e▸(hS u hl).1:R w (fun _=>False) E0 (.sl (FS ((xs.getD i []).getD 16 undef)).1 9 (fun i'=>lst (stpL ((FS ((xs.getD i []).getD 16 undef)).2 i')))) u)⟩
  | 17,_=>exact gi 17 uI rfl
  | 18,_=>exact gi 18 uI rfl
  | 19,_=>
   obtain ⟨u,hu,hl,e⟩:=get i hi 19 tPS rfl
   exact ⟨u,hu,one_slice (e:=33) (by kernel_rfl) hl,(e▸(hP u hl).1:R w (fun _=>False) E0 (.sl (FP ((xs.getD i []).getD 19 undef)).1 8 (fun i'=>lst (inkL ((FP ((xs.getD i []).getD 19 undef)).2 i')))) u)⟩
  | 20,_=>
   obtain ⟨u,hu,hl,e⟩:=get i hi 20 tUS rfl
   exact ⟨u,hu,one_slice (e:=tU) (by kernel_rfl) hl,(e▸(hU u hl).1:R w (fun _=>False) E0 (.sl (FU ((xs.getD i []).getD 20 undef)).1 1 (fun i' _=> .int .u8 ((FU ((xs.getD i []).getD 20 undef)).2 i'))) u)⟩
  | 21,_=>exact gi 21 uI rfl
  | 22,_=>exact gi 22 uI rfl
  | 23,_=>exact gi 23 uI rfl
  | 24,_=>exact gi 24 uI rfl
  | 25,_=>exact gi 25 uI rfl
  | 26,_=>exact gi 26 uI rfl
  | 27,_=>exact gb 27 rfl
  | 28,_=>exact gb 28 rfl
  | 29,_=>exact gi 29 uU rfl
  | 30,_=>exact gi 30 uI rfl
  | 31,_=>exact gb 31 rfl
  | 32,_=>exact gb 32 rfl
  | 33,_=>exact gb 33 rfl
  | _+34,hj=>exact absurd hj (by simp [itL]<;>omega)
 ·have hi:i<xs.length:=hi
  have g8:∀ (j:Nat),itT[j]?=some tU->0<=iV ((xs.getD i []).getD j undef)/\iV ((xs.getD i []).getD j undef)<=255:=fun j hjt=>by
   obtain ⟨u,hu,hl,e⟩:=get i hi j tU hjt
   rw [e]
   exact u8_of (R_int (w:=w) (X:=fun _=>False) (E:=E0) uU hl).2.2
  obtain ⟨u1,_,l1,e1⟩:=get i hi 1 tRS rfl
  obtain ⟨u2,_,l2,e2⟩:=get i hi 16 tSS rfl
  obtain ⟨u3,_,l3,e3⟩:=get i hi 19 tPS rfl
  obtain ⟨u4,_,l4,e4⟩:=get i hi 20 tUS rfl
  refine ⟨g8 29 rfl,⟨⟨g8 3 rfl,g8 4 rfl,g8 5 rfl,g8 6 rfl⟩,g8 7 rfl,g8 8 rfl,g8 9 rfl,g8 10 rfl⟩,?_,?_,?_,?_⟩
  ·show ∀ j,j<(FS ((xs.getD i []).getD 16 undef)).1->u8i ((FS ((xs.getD i []).getD 16 undef)).2 j).ink
   rw [e2]; exact (hS u2 l2).2.2
  ·show ∀ j,j<(FP ((xs.getD i []).getD 19 undef)).1->inkOk ((FP ((xs.getD i []).getD 19 undef)).2 j)
   rw [e3]; exact (hP u3 l3).2.2
  ·show ∀ j,j<(FU ((xs.getD i []).getD 20 undef)).1->0<=(FU ((xs.getD i []).getD 20 undef)).2 j/\(FU ((xs.getD i []).getD 20 undef)).2 j<=255
   rw [e4]; exact (hU u4 l4).2.2
  ·show (FR ((xs.getD i []).getD 1 undef)).1<=9223372036854775807
   rw [e1]; exact (hR u1 l1).2
theorem leaf_names {w:World}{v:Value}(h:Leaf Try.prog w 22 v):∃ (n:Nat) (nm:Nat->ByteArray),R w (fun _=>False) E0 (.sl n 1 (fun i _=> .str (nm i))) v/\n<=maxLen:=by
 obtain ⟨xs,h3,h4,h5⟩:=sl_of_leaf (n:=20) (e:=9) (ls:=[9]) (α:=ByteArray) (c:=fun s=>[.string s]) (mk:=fun cs=>strOf (ofV (cs.getD 0 undef))) (ok:=fun _=>True)
  (by kernel_rfl) (show Try.prog.cellsOf 9=1 by kernel_rfl) (by decide) (by kernel_rfl) (fun cs hcs=>by
   obtain ⟨y,m,rfl,e1,l1⟩:=All2.cons_inv hcs
   obtain rfl:=All2.nil_inv l1
   obtain ⟨s,rfl,_⟩:=leaf_string (by kernel_rfl) e1
   exact ⟨rfl,trivial⟩) h
 refine ⟨xs.length,fun i=>xs.getD i ByteArray.empty,R_sl (by decide) h3 (fun _=>id) fun i j hi hj=>?_,h5⟩
 have e:xs.getD i ByteArray.empty=xs[i]:=by rw [List.getD_eq_getElem?_getD,List.getElem?_eq_getElem hi]; rfl
 match j,hj with
 | 0,_=>exact ⟨_,rfl,rfl,by show R w _ E0 (.str (xs.getD i ByteArray.empty)) _; rw [e]; exact .str⟩
theorem ls_u8 {L:LsG}(h:∀ i,i<L.n->It8 (L.it i)):LsU8 L:=⟨fun i hi=>(h i hi).alpha,fun i hi=>(h i hi).ink,fun i hi=>(h i hi).st,fun i hi=>(h i hi).px,fun i hi=>(h i hi).sf,fun i hi=>(h i hi).nr⟩
theorem itL_noOwn (x:It) (j:Nat):noOwn (lst (itL x) j):=noOwn_lstL (itL_own x) j
theorem lsS_own (L:LsG):noOwn (lsS L):=noOwn_lstL (l:=lsL L) (fun s hs=>by
 simp only [lsL,List.mem_cons,List.not_mem_nil,or_false] at hs
 rcases hs with rfl | rfl | rfl | rfl
 ·trivial
 ·trivial
 ·exact fun _ _=>trivial
 ·exact fun i j=>itL_noOwn _ j)
end Go.Proofs.Ythappngbapbkfaa.Lli
set_option linter.unusedSimpArgs false
set_option linter.unusedVariables false
namespace Go.Proofs.Ythappngbapbkfaa.Lul
open Go.RowKit Sx Num Aff Afi Img Imh Imp Imq Rga Blend Ble Lsg Lta Lrd Lri Luc Lck Lgr Lcs Lst Lch Lcl Lgp Lsc Cmp Lpm Lpa Lpr Lbt Lpn Lpc Lpd Lpe Lpf Lrw Lto Lat Lun Lsh Lli
set_option maxRecDepth 100000
theorem no_cov {T:LsG}(h0:chkL T=0) {X Y:Int}{k:Nat}(hk:k<T.n) (hk2:(T.it k).kind=0) (hb:CoG.b ⟨T,k,X,Y⟩=false):¬ (InG.mk (T.it k).nr (T.it k).runs X Y).is:=fun hin=>by
 have he:CoG.e ⟨T,k,X,Y⟩=0:=by
  unfold CoG.e
  rw [if_neg (fun hc=>hc h0),if_neg (by simp only; omega),if_neg (by show ¬ (T.it k).kind=2; omega)]
 have hto:CoG.to ⟨T,k,X,Y⟩=k+1:=by
  unfold CoG.to
  rw [if_neg (by show ¬ (T.it k).kind=1; omega)]
  rfl
 unfold CoG.b at hb
 rw [he,hto,decide_eq_true rfl,Bool.true_and] at hb
 have:CoG.cv ⟨T,k,X,Y⟩ (k+1-k):=⟨0,by omega,hk2,hin⟩
 exact of_decide_eq_false hb this
theorem tiny_it (L:LsG) (i:Nat):(tinyL L).it i=L.it i:=rfl
theorem tiny_nm (L:LsG) (i:Nat):(tinyL L).nm i=L.nm i:=rfl
theorem strOf_str (s:ByteArray):strOf (.str s)=s:=rfl
theorem tiny_fold (L:LsG):(⟨cutI L.w 1 2,cutI L.h 1 2,L.ni,fun i=>L.nm i,if 12<L.n then 12 else L.n,L.it⟩:LsG)=tinyL L:=rfl
theorem tiny_n (L:LsG):(if 12<L.n then 12 else L.n)=(tinyL L).n:=rfl
theorem tiny_w (L:LsG):cutI L.w 1 2=(tinyL L).w:=rfl
theorem tiny_h (L:LsG):cutI L.h 1 2=(tinyL L).h:=rfl
def AtL.ok (g:AtL):Prop:=g.L.n<=maxLen/\∀ i,i<g.L.n->It8 (g.L.it i)
def AtL.X (g:AtL):Int:=cutI g.x 0 (16*(tinyL g.L).w-1)
def AtL.Y (g:AtL):Int:=cutI g.y 0 (16*(tinyL g.L).h-1)
def unI (g:AtL):Inv:=⟨Nat,fun k=>chkL (tinyL g.L)=0/\k<=(tinyL g.L).n/\∀ j,j<k->((tinyL g.L).it j).kind≠2->CoG.b ⟨tinyL g.L,j,AtL.X g,AtL.Y g⟩=false,
 fun k=>⟨[(1,.int .i64 (AtL.X g)),(2,.int .i64 (AtL.Y g)),(3,.own 0 0),(33,.sl (tinyL g.L).n 34 (fun i=>lst (itL ((tinyL g.L).it i)))),(34,.int .i64 (tinyL g.L).n),(35,.int .i64 k)],[lsO (tinyL g.L)]⟩,fun k=>(tinyL g.L).n-k⟩
def spUnc:FSpec:=mkSpec 3 (γ:=AtL) (fun | [.agg _ g,.int _ x,.int _ y]=>some ⟨lsD g,x,y⟩ | _=>none) (fun g=>[lsS g.L,.int .i64 g.x,.int .i64 g.y]) AtL.ok (fun _=> .bool true)
theorem ok_unc:SpecOK Try.prog spUnc:=by
 refine spec_sound (specs:=[spShown,spTiny,spLchk,spCut,spCovL,spAtL]) (all_ok ⟨ok_shown,ok_tiny,ok_lchk,ok_cut,ok_covL,ok_atL,trivial⟩) (eqs:=eqL) (all_eq eqL_ok) Aff.mixed Try.func3 rfl (by kernel_rfl) (fun _ _=>by kernel_rfl) (fun g=>(⟨[(8,.inv (unI g))],[]⟩:Ann)) (fun g=>Nat.le_of_ble_eq_true (by kernel_rfl)) ?_
 rintro ⟨L,x,y⟩ ⟨hn,hL⟩
 refine vc_of (B:=let T3:=fun p:Prop=>True/\True/\True/\p;let K:=Sx.Br;let A:=Sx.Ask;let z50:=(4611686018427387903:Int);let z44:=(9223372036854775807:Int);let z43:=(0:Nat);let z40:=(-9223372036854775808:Int);let z39:=(12:Nat);let z35:=(16:Int);let z34:=(0:Int);let z33:=(2:Int);let z31:=(1:Nat);let z23:=(1:Int);let z11:=(if z39<L.n then z39 else L.n);let z19:=(z11=if z39<L.n then z39 else L.n);let z6:=(Lat.AtL.mk L x y);let z4:=(IntKind.u8=IntKind.u8);let q4:=fun p:Int=>A z4/\A (p=p);let z3:=(IntKind.i64=IntKind.i64);let q3:=fun p:Int=>A z3/\A (p=p);let z52:=(q3 ((↑z11:Int)));let z47:=(q3 (AtL.Y z6));let z46:=(q3 (AtL.X z6));let z10:=((True/\q3 (cutI L.w z23 z33))/\q3 (cutI L.h z23 z33));let z2:=(Lsh.tinyL L);let z45:=(z10/\A (L.ni=L.ni)/\∀ i:Nat,i<L.ni->True/\A (z2.nm i=z2.nm i));let z38:=(z10/\A (L.ni=L.ni)/\∀ i:Nat,i<L.ni->True/\A (z2.nm i=Lsg.strOf (Sx.SV.str (z2.nm i))));let z5:=(Lsg.LsG.mk (cutI L.w z23 z33) (cutI L.h z23 z33) L.ni (fun (i:Nat)=>Lsg.strOf (Sx.SV.str (z2.nm i))) z11 L.it);let z18:=(Lat.AtL.mk z5 (AtL.X z6) (AtL.Y z6));let z1:=(z38/\A z19/\∀ i:Nat,let z7:=(z2.it i); (i<if z39<L.n then z39 else L.n)->(((((((((((((((((((((((((((((((((True/\q3 z7.kind)/\A (z7.nr=z7.nr)/\∀ i_1:Nat,let z53:=(z7.runs i_1); i_1<z7.nr->((True/\q3 z53.y)/\q3 z53.x0)/\q3 z53.x1)/\q3 z7.src.kind)/\q4 z7.src.ink.c0)/\q4 z7.src.ink.c1)/\q4 z7.src.ink.c2)/\q4 z7.src.ink.c3)/\q4 z7.src.ink.c4)/\q4 z7.src.ink.c5)/\q4 z7.src.ink.c6)/\q4 z7.src.ink.c7)/\q3 z7.src.fx)/\q3 z7.src.fy)/\q3 z7.src.tx)/\q3 z7.src.ty)/\q3 z7.src.rad)/\A (z7.src.ns=z7.src.ns)/\∀ i_1:Nat,let z24:=(z7.src.st i_1); i_1<z7.src.ns->((((((((True/\q3 z24.pos)/\q4 z24.ink.c0)/\q4 z24.ink.c1)/\q4 z24.ink.c2)/\q4 z24.ink.c3)/\q4 z24.ink.c4)/\q4 z24.ink.c5)/\q4 z24.ink.c6)/\q4 z24.ink.c7)/\q3 z7.src.img.w)/\q3 z7.src.img.h)/\A (z7.src.img.n=z7.src.img.n)/\∀ i_1:Nat,let z20:=(z7.src.img.px i_1); i_1<z7.src.img.n->(((((((True/\q4 z20.c0)/\q4 z20.c1)/\q4 z20.c2)/\q4 z20.c3)/\q4 z20.c4)/\q4 z20.c5)/\q4 z20.c6)/\q4 z20.c7)/\A (z7.src.img.sn=z7.src.img.sn)/\∀ i_1:Nat,i_1<z7.src.img.sn->True/\q4 (z7.src.img.sf i_1))/\q3 z7.src.img.m.a)/\q3 z7.src.img.m.b)/\q3 z7.src.img.m.c)/\q3 z7.src.img.m.d)/\q3 z7.src.img.m.e)/\q3 z7.src.img.m.f)/\A (z7.src.img.smooth=z7.src.img.smooth))/\A (z7.src.img.rep=z7.src.img.rep))/\q4 z7.alpha)/\q3 z7.blend)/\A (z7.over=z7.over))/\A (z7.iso=z7.iso))/\A (z7.knock=z7.knock));True/\True/\(True/\A True)/\True/\True/\((((((True/\q3 L.w)/\q3 L.h)/\A (L.ni=L.ni)/\∀ i:Nat,i<L.ni->True/\A (L.nm i=L.nm i))/\A (L.n=L.n)/\∀ i:Nat,i<L.n->(((((((((((((((((((((((((((((((((True/\q3 ((L.it i).kind))/\A ((L.it i).nr=(L.it i).nr)/\∀ i_1:Nat,let z48:=((L.it i).runs i_1); i_1<(L.it i).nr->((True/\q3 z48.y)/\q3 z48.x0)/\q3 z48.x1)/\q3 ((L.it i).src.kind))/\q4 ((L.it i).src.ink.c0))/\q4 ((L.it i).src.ink.c1))/\q4 ((L.it i).src.ink.c2))/\q4 ((L.it i).src.ink.c3))/\q4 ((L.it i).src.ink.c4))/\q4 ((L.it i).src.ink.c5))/\q4 ((L.it i).src.ink.c6))/\q4 ((L.it i).src.ink.c7))/\q3 ((L.it i).src.fx))/\q3 ((L.it i).src.fy))/\q3 ((L.it i).src.tx))/\q3 ((L.it i).src.ty))/\q3 ((L.it i).src.rad))/\A ((L.it i).src.ns=(L.it i).src.ns)/\∀ i_1:Nat,let z16:=((L.it i).src.st i_1); i_1<(L.it i).src.ns->((((((((True/\q3 z16.pos)/\q4 z16.ink.c0)/\q4 z16.ink.c1)/\q4 z16.ink.c2)/\q4 z16.ink.c3)/\q4 z16.ink.c4)/\q4 z16.ink.c5)/\q4 z16.ink.c6)/\q4 z16.ink.c7)/\q3 ((L.it i).src.img.w))/\q3 ((L.it i).src.img.h))/\A ((L.it i).src.img.n=(L.it i).src.img.n)/\∀ i_1:Nat,let z12:=((L.it i).src.img.px i_1); i_1<(L.it i).src.img.n->(((((((True/\q4 z12.c0)/\q4 z12.c1)/\q4 z12.c2)/\q4 z12.c3)/\q4 z12.c4)/\q4 z12.c5)/\q4 z12.c6)/\q4 z12.c7)/\A ((L.it i).src.img.sn=(L.it i).src.img.sn)/\∀ i_1:Nat,i_1<(L.it i).src.img.sn->True/\q4 ((L.it i).src.img.sf i_1))/\q3 ((L.it i).src.img.m.a))/\q3 ((L.it i).src.img.m.b))/\q3 ((L.it i).src.img.m.c))/\q3 ((L.it i).src.img.m.d))/\q3 ((L.it i).src.img.m.e))/\q3 ((L.it i).src.img.m.f))/\A ((L.it i).src.img.smooth=(L.it i).src.img.smooth))/\A ((L.it i).src.img.rep=(L.it i).src.img.rep))/\q4 ((L.it i).alpha))/\q3 ((L.it i).blend))/\A ((L.it i).over=(L.it i).over))/\A ((L.it i).iso=(L.it i).iso))/\A ((L.it i).knock=(L.it i).knock))/\True)/\A True)/\True/\True/\(((z38/\A z19/\∀ i:Nat,(i<if z39<L.n then z39 else L.n)->(((((((((((((((((((((((((((((((((True/\q3 ((L.it i).kind))/\A ((L.it i).nr=(L.it i).nr)/\∀ i_1:Nat,let z49:=((L.it i).runs i_1); i_1<(L.it i).nr->((True/\q3 z49.y)/\q3 z49.x0)/\q3 z49.x1)/\q3 ((L.it i).src.kind))/\q4 ((L.it i).src.ink.c0))/\q4 ((L.it i).src.ink.c1))/\q4 ((L.it i).src.ink.c2))/\q4 ((L.it i).src.ink.c3))/\q4 ((L.it i).src.ink.c4))/\q4 ((L.it i).src.ink.c5))/\q4 ((L.it i).src.ink.c6))/\q4 ((L.it i).src.ink.c7))/\q3 ((L.it i).src.fx))/\q3 ((L.it i).src.fy))/\q3 ((L.it i).src.tx))/\q3 ((L.it i).src.ty))/\q3 ((L.it i).src.rad))/\A ((L.it i).src.ns=(L.it i).src.ns)/\∀ i_1:Nat,let z17:=((L.it i).src.st i_1); i_1<(L.it i).src.ns->((((((((True/\q3 z17.pos)/\q4 z17.ink.c0)/\q4 z17.ink.c1)/\q4 z17.ink.c2)/\q4 z17.ink.c3)/\q4 z17.ink.c4)/\q4 z17.ink.c5)/\q4 z17.ink.c6)/\q4 z17.ink.c7)/\q3 ((L.it i).src.img.w))/\q3 ((L.it i).src.img.h))/\A ((L.it i).src.img.n=(L.it i).src.img.n)/\∀ i_1:Nat,let z13:=((L.it i).src.img.px i_1); i_1<(L.it i).src.img.n->(((((((True/\q4 z13.c0)/\q4 z13.c1)/\q4 z13.c2)/\q4 z13.c3)/\q4 z13.c4)/\q4 z13.c5)/\q4 z13.c6)/\q4 z13.c7)/\A ((L.it i).src.img.sn=(L.it i).src.img.sn)/\∀ i_1:Nat,i_1<(L.it i).src.img.sn->True/\q4 ((L.it i).src.img.sf i_1))/\q3 ((L.it i).src.img.m.a))/\q3 ((L.it i).src.img.m.b))/\q3 ((L.it i).src.img.m.c))/\q3 ((L.it i).src.img.m.d))/\q3 ((L.it i).src.img.m.e))/\q3 ((L.it i).src.img.m.f))/\A ((L.it i).src.img.smooth=(L.it i).src.img.smooth))/\A ((L.it i).src.img.rep=(L.it i).src.img.rep))/\q4 ((L.it i).alpha))/\q3 ((L.it i).blend))/\A ((L.it i).over=(L.it i).over))/\A ((L.it i).iso=(L.it i).iso))/\A ((L.it i).knock=(L.it i).knock))/\True)/\A (∀ i:Nat,(i<if z39<L.n then z39 else L.n)->(L.it i).nr<=(9223372036854775807:Nat)))/\True/\K (decide (Lcl.chkL z5≠z34)) (True/\True/\A (true=true)) (T3 (A (z40<=z35*cutI L.w z23 z33/\z35*cutI L.w z23 z33<=z44)/\A (z40<=z35*cutI L.w z23 z33-z23/\z35*cutI L.w z23 z33-z23<=z44)/\(((q3 x)/\(q3 z34)/\(q3 (z35*cutI L.w z23 z33-z23))/\True)/\A (((-2305843009213693952:Int)<=z34/\z34<=z35*cutI L.w z23 z33-z23)/\z35*cutI L.w z23 z33-z23<=z50/\z35*cutI L.w z23 z33-z23-z34<=z50))/\T3 (A (z40<=z35*cutI L.h z23 z33/\z35*cutI L.h z23 z33<=z44)/\A (z40<=z35*cutI L.h z23 z33-z23/\z35*cutI L.h z23 z33-z23<=z44)/\(((q3 y)/\(q3 z34)/\(q3 (z35*cutI L.h z23 z33-z23))/\True)/\A (((-2305843009213693952:Int)<=z34/\z34<=z35*cutI L.h z23 z33-z23)/\z35*cutI L.h z23 z33-z23<=z50/\z35*cutI L.h z23 z33-z23-z34<=z50))/\T3 (T3 ((∃ g:Nat,A ((unI z6).pre g)/\((A z3/\A (cutI x z34 (z35*cutI L.w z23 z33-z23)=AtL.X z6))/\(A z3/\A (cutI y z34 (z35*cutI L.h z23 z33-z23)=AtL.Y z6))/\A (z43=z43)/\(A z19/\∀ i:Nat,let z14:=(z2.it i); (i<if z39<L.n then z39 else L.n)->(((((((((((((((((((((((((((((((((True/\A z3/\A ((L.it i).kind=z14.kind))/\A ((L.it i).nr=z14.nr)/\∀ i_1:Nat,i_1<z14.nr->((True/\A z3/\A (((L.it i).runs i_1).y=(z14.runs i_1).y))/\A z3/\A (((L.it i).runs i_1).x0=(z14.runs i_1).x0))/\A z3/\A (((L.it i).runs i_1).x1=(z14.runs i_1).x1))/\A z3/\A ((L.it i).src.kind=z14.src.kind))/\A z4/\A ((L.it i).src.ink.c0=z14.src.ink.c0))/\A z4/\A ((L.it i).src.ink.c1=z14.src.ink.c1))/\A z4/\A ((L.it i).src.ink.c2=z14.src.ink.c2))/\A z4/\A ((L.it i).src.ink.c3=z14.src.ink.c3))/\A z4/\A ((L.it i).src.ink.c4=z14.src.ink.c4))/\A z4/\A ((L.it i).src.ink.c5=z14.src.ink.c5))/\A z4/\A ((L.it i).src.ink.c6=z14.src.ink.c6))/\A z4/\A ((L.it i).src.ink.c7=z14.src.ink.c7))/\A z3/\A ((L.it i).src.fx=z14.src.fx))/\A z3/\A ((L.it i).src.fy=z14.src.fy))/\A z3/\A ((L.it i).src.tx=z14.src.tx))/\A z3/\A ((L.it i).src.ty=z14.src.ty))/\A z3/\A ((L.it i).src.rad=z14.src.rad))/\A ((L.it i).src.ns=z14.src.ns)/\∀ i_1:Nat,let z41:=(z14.src.st i_1);let z29:=((L.it i).src.st i_1); i_1<z14.src.ns->((((((((True/\A z3/\A (z29.pos=z41.pos))/\A z4/\A (z29.ink.c0=z41.ink.c0))/\A z4/\A (z29.ink.c1=z41.ink.c1))/\A z4/\A (z29.ink.c2=z41.ink.c2))/\A z4/\A (z29.ink.c3=z41.ink.c3))/\A z4/\A (z29.ink.c4=z41.ink.c4))/\A z4/\A (z29.ink.c5=z41.ink.c5))/\A z4/\A (z29.ink.c6=z41.ink.c6))/\A z4/\A (z29.ink.c7=z41.ink.c7))/\A z3/\A ((L.it i).src.img.w=z14.src.img.w))/\A z3/\A ((L.it i).src.img.h=z14.src.img.h))/\A ((L.it i).src.img.n=z14.src.img.n)/\∀ i_1:Nat,let z36:=(z14.src.img.px i_1);let z27:=((L.it i).src.img.px i_1); i_1<z14.src.img.n->(((((((True/\A z4/\A (z27.c0=z36.c0))/\A z4/\A (z27.c1=z36.c1))/\A z4/\A (z27.c2=z36.c2))/\A z4/\A (z27.c3=z36.c3))/\A z4/\A (z27.c4=z36.c4))/\A z4/\A (z27.c5=z36.c5))/\A z4/\A (z27.c6=z36.c6))/\A z4/\A (z27.c7=z36.c7))/\A ((L.it i).src.img.sn=z14.src.img.sn)/\∀ i_1:Nat,i_1<z14.src.img.sn->True/\A z4/\A ((L.it i).src.img.sf i_1=z14.src.img.sf i_1))/\A z3/\A ((L.it i).src.img.m.a=z14.src.img.m.a))/\A z3/\A ((L.it i).src.img.m.b=z14.src.img.m.b))/\A z3/\A ((L.it i).src.img.m.c=z14.src.img.m.c))/\A z3/\A ((L.it i).src.img.m.d=z14.src.img.m.d))/\A z3/\A ((L.it i).src.img.m.e=z14.src.img.m.e))/\A z3/\A ((L.it i).src.img.m.f=z14.src.img.m.f))/\A ((L.it i).src.img.smooth=z14.src.img.smooth))/\A ((L.it i).src.img.rep=z14.src.img.rep))/\A z4/\A ((L.it i).alpha=z14.alpha))/\A z3/\A ((L.it i).blend=z14.blend))/\A ((L.it i).over=z14.over))/\A ((L.it i).iso=z14.iso))/\A ((L.it i).knock=z14.knock))/\z52/\(A z3/\A (z34=(↑g:Int)))/\True)/\(z45/\A z19/\∀ i:Nat,let z15:=(z2.it i); (i<if z39<L.n then z39 else L.n)->(((((((((((((((((((((((((((((((((True/\A z3/\A ((L.it i).kind=z15.kind))/\A ((L.it i).nr=z15.nr)/\∀ i_1:Nat,i_1<z15.nr->((True/\A z3/\A (((L.it i).runs i_1).y=(z15.runs i_1).y))/\A z3/\A (((L.it i).runs i_1).x0=(z15.runs i_1).x0))/\A z3/\A (((L.it i).runs i_1).x1=(z15.runs i_1).x1))/\A z3/\A ((L.it i).src.kind=z15.src.kind))/\A z4/\A ((L.it i).src.ink.c0=z15.src.ink.c0))/\A z4/\A ((L.it i).src.ink.c1=z15.src.ink.c1))/\A z4/\A ((L.it i).src.ink.c2=z15.src.ink.c2))/\A z4/\A ((L.it i).src.ink.c3=z15.src.ink.c3))/\A z4/\A ((L.it i).src.ink.c4=z15.src.ink.c4))/\A z4/\A ((L.it i).src.ink.c5=z15.src.ink.c5))/\A z4/\A ((L.it i).src.ink.c6=z15.src.ink.c6))/\A z4/\A ((L.it i).src.ink.c7=z15.src.ink.c7))/\A z3/\A ((L.it i).src.fx=z15.src.fx))/\A z3/\A ((L.it i).src.fy=z15.src.fy))/\A z3/\A ((L.it i).src.tx=z15.src.tx))/\A z3/\A ((L.it i).src.ty=z15.src.ty))/\A z3/\A ((L.it i).src.rad=z15.src.rad))/\A ((L.it i).src.ns=z15.src.ns)/\∀ i_1:Nat,let z42:=(z15.src.st i_1);let z30:=((L.it i).src.st i_1); i_1<z15.src.ns->((((((((True/\A z3/\A (z30.pos=z42.pos))/\A z4/\A (z30.ink.c0=z42.ink.c0))/\A z4/\A (z30.ink.c1=z42.ink.c1))/\A z4/\A (z30.ink.c2=z42.ink.c2))/\A z4/\A (z30.ink.c3=z42.ink.c3))/\A z4/\A (z30.ink.c4=z42.ink.c4))/\A z4/\A (z30.ink.c5=z42.ink.c5))/\A z4/\A (z30.ink.c6=z42.ink.c6))/\A z4/\A (z30.ink.c7=z42.ink.c7))/\A z3/\A ((L.it i).src.img.w=z15.src.img.w))/\A z3/\A ((L.it i).src.img.h=z15.src.img.h))/\A ((L.it i).src.img.n=z15.src.img.n)/\∀ i_1:Nat,let z37:=(z15.src.img.px i_1);let z28:=((L.it i).src.img.px i_1); i_1<z15.src.img.n->(((((((True/\A z4/\A (z28.c0=z37.c0))/\A z4/\A (z28.c1=z37.c1))/\A z4/\A (z28.c2=z37.c2))/\A z4/\A (z28.c3=z37.c3))/\A z4/\A (z28.c4=z37.c4))/\A z4/\A (z28.c5=z37.c5))/\A z4/\A (z28.c6=z37.c6))/\A z4/\A (z28.c7=z37.c7))/\A ((L.it i).src.img.sn=z15.src.img.sn)/\∀ i_1:Nat,i_1<z15.src.img.sn->True/\A z4/\A ((L.it i).src.img.sf i_1=z15.src.img.sf i_1))/\A z3/\A ((L.it i).src.img.m.a=z15.src.img.m.a))/\A z3/\A ((L.it i).src.img.m.b=z15.src.img.m.b))/\A z3/\A ((L.it i).src.img.m.c=z15.src.img.m.c))/\A z3/\A ((L.it i).src.img.m.d=z15.src.img.m.d))/\A z3/\A ((L.it i).src.img.m.e=z15.src.img.m.e))/\A z3/\A ((L.it i).src.img.m.f=z15.src.img.m.f))/\A ((L.it i).src.img.smooth=z15.src.img.smooth))/\A ((L.it i).src.img.rep=z15.src.img.rep))/\A z4/\A ((L.it i).alpha=z15.alpha))/\A z3/\A ((L.it i).blend=z15.blend))/\A ((L.it i).over=z15.over))/\A ((L.it i).iso=z15.iso))/\A ((L.it i).knock=z15.knock))/\True)/\∀ g:Nat,let z51:=(↑g:Int);let z32:=(Lat.CoG.mk z5 z51 (AtL.X z6) (AtL.Y z6));let z0:=(A (z40<=z51+z23/\z51+z23<=z44)/\True/\∃ (g':Nat),A ((unI z6).pre g')/\((z46/\z47/\A (z43=z43)/\(A z19/\∀ i:Nat,let z8:=(z2.it i); (i<if z39<L.n then z39 else L.n)->(((((((((((((((((((((((((((((((((True/\q3 z8.kind)/\A (z8.nr=z8.nr)/\∀ i_1:Nat,let z54:=(z8.runs i_1); i_1<z8.nr->((True/\q3 z54.y)/\q3 z54.x0)/\q3 z54.x1)/\q3 z8.src.kind)/\q4 z8.src.ink.c0)/\q4 z8.src.ink.c1)/\q4 z8.src.ink.c2)/\q4 z8.src.ink.c3)/\q4 z8.src.ink.c4)/\q4 z8.src.ink.c5)/\q4 z8.src.ink.c6)/\q4 z8.src.ink.c7)/\q3 z8.src.fx)/\q3 z8.src.fy)/\q3 z8.src.tx)/\q3 z8.src.ty)/\q3 z8.src.rad)/\A (z8.src.ns=z8.src.ns)/\∀ i_1:Nat,let z25:=(z8.src.st i_1); i_1<z8.src.ns->((((((((True/\q3 z25.pos)/\q4 z25.ink.c0)/\q4 z25.ink.c1)/\q4 z25.ink.c2)/\q4 z25.ink.c3)/\q4 z25.ink.c4)/\q4 z25.ink.c5)/\q4 z25.ink.c6)/\q4 z25.ink.c7)/\q3 z8.src.img.w)/\q3 z8.src.img.h)/\A (z8.src.img.n=z8.src.img.n)/\∀ i_1:Nat,let z21:=(z8.src.img.px i_1); i_1<z8.src.img.n->(((((((True/\q4 z21.c0)/\q4 z21.c1)/\q4 z21.c2)/\q4 z21.c3)/\q4 z21.c4)/\q4 z21.c5)/\q4 z21.c6)/\q4 z21.c7)/\A (z8.src.img.sn=z8.src.img.sn)/\∀ i_1:Nat,i_1<z8.src.img.sn->True/\q4 (z8.src.img.sf i_1))/\q3 z8.src.img.m.a)/\q3 z8.src.img.m.b)/\q3 z8.src.img.m.c)/\q3 z8.src.img.m.d)/\q3 z8.src.img.m.e)/\q3 z8.src.img.m.f)/\A (z8.src.img.smooth=z8.src.img.smooth))/\A (z8.src.img.rep=z8.src.img.rep))/\q4 z8.alpha)/\q3 z8.blend)/\A (z8.over=z8.over))/\A (z8.iso=z8.iso))/\A (z8.knock=z8.knock))/\z52/\(A z3/\A (z51+z23=(↑g':Int)))/\True)/\(z45/\A z19/\∀ i:Nat,let z9:=(z2.it i); (i<if z39<L.n then z39 else L.n)->(((((((((((((((((((((((((((((((((True/\q3 z9.kind)/\A (z9.nr=z9.nr)/\∀ i_1:Nat,let z55:=(z9.runs i_1); i_1<z9.nr->((True/\q3 z55.y)/\q3 z55.x0)/\q3 z55.x1)/\q3 z9.src.kind)/\q4 z9.src.ink.c0)/\q4 z9.src.ink.c1)/\q4 z9.src.ink.c2)/\q4 z9.src.ink.c3)/\q4 z9.src.ink.c4)/\q4 z9.src.ink.c5)/\q4 z9.src.ink.c6)/\q4 z9.src.ink.c7)/\q3 z9.src.fx)/\q3 z9.src.fy)/\q3 z9.src.tx)/\q3 z9.src.ty)/\q3 z9.src.rad)/\A (z9.src.ns=z9.src.ns)/\∀ i_1:Nat,let z26:=(z9.src.st i_1); i_1<z9.src.ns->((((((((True/\q3 z26.pos)/\q4 z26.ink.c0)/\q4 z26.ink.c1)/\q4 z26.ink.c2)/\q4 z26.ink.c3)/\q4 z26.ink.c4)/\q4 z26.ink.c5)/\q4 z26.ink.c6)/\q4 z26.ink.c7)/\q3 z9.src.img.w)/\q3 z9.src.img.h)/\A (z9.src.img.n=z9.src.img.n)/\∀ i_1:Nat,let z22:=(z9.src.img.px i_1); i_1<z9.src.img.n->(((((((True/\q4 z22.c0)/\q4 z22.c1)/\q4 z22.c2)/\q4 z22.c3)/\q4 z22.c4)/\q4 z22.c5)/\q4 z22.c6)/\q4 z22.c7)/\A (z9.src.img.sn=z9.src.img.sn)/\∀ i_1:Nat,i_1<z9.src.img.sn->True/\q4 (z9.src.img.sf i_1))/\q3 z9.src.img.m.a)/\q3 z9.src.img.m.b)/\q3 z9.src.img.m.c)/\q3 z9.src.img.m.d)/\q3 z9.src.img.m.e)/\q3 z9.src.img.m.f)/\A (z9.src.img.smooth=z9.src.img.smooth))/\A (z9.src.img.rep=z9.src.img.rep))/\q4 z9.alpha)/\q3 z9.blend)/\A (z9.over=z9.over))/\A (z9.iso=z9.iso))/\A (z9.knock=z9.knock))/\True)/\A ((unI z6).meas g'<(unI z6).meas g)); (unI z6).pre g->True/\K (decide (z51<(↑z11:Int))) (True/\A (z34<=z51/\z51<(↑z11:Int))/\T3 (T3 (True/\K (decide ((z2.it z51.toNat).kind=z33)) z0 (T3 (True/\((z1/\(q3 z51)/\z46/\z47/\True)/\A (Lto.LsU8 z5/\z51<(1000000:Int)))/\T3 (T3 (True/\K z32.b (T3 (True/\True/\A (decide (z32.e=z34)=true))) (T3 (K (decide (z32.e≠z34)) (T3 (True/\A (decide (z32.e=z34)=true))) z0))))))))) (T3 (((z1/\z46/\z47/\True)/\A (Lto.LsU8 z5))/\T3 (T3 (T3 (K (decide (z18.e=z34)) (T3 (T3 (A ((decide (z18.v (z43+z43)=z34)&&(decide (z18.v (z43+(z43+z31))=z34)&&(decide (z18.v (z43+(z43+z31+z31))=z34)&&(decide (z18.v (z43+(z43+z31+z31+z31))=z34)&&(decide (z18.v (z43+(z43+z31+z31+z31+z31))=z34)&&(decide (z18.v (z43+(z43+z31+z31+z31+z31+z31))=z34)&&(decide (z18.v (z43+(z43+z31+z31+z31+z31+z31+z31))=z34)&&(decide (z18.v (z43+(z43+z31+z31+z31+z31+z31+z31+z31))=z34)&&true))))))))=true)))) (T3 (A (false=true)))))))))))))) (by kernel_rfl) ?_
 simp only [tiny_it,tiny_nm,strOf_str]
 simp only [tiny_fold]
 simp only [tiny_n,tiny_w,tiny_h]
 simp only [ask_iff,br_iff,eq_self,true_and,and_true,implies_true,forall_const,decide_eq_true_eq,decide_eq_false_iff_not,ne_eq,Nat.mul_one,Nat.add_zero,Nat.zero_add]
 have hw:1<=(tinyL L).w/\(tinyL L).w<=2:=cutI_range L.w 1 2 (by decide)
 have hh:1<=(tinyL L).h/\(tinyL L).h<=2:=cutI_range L.h 1 2 (by decide)
 have hX:0<=AtL.X ⟨L,x,y⟩/\AtL.X ⟨L,x,y⟩<=16*(tinyL L).w-1:=cutI_range x 0 (16*(tinyL L).w-1) (by omega)
 have hY:0<=AtL.Y ⟨L,x,y⟩/\AtL.Y ⟨L,x,y⟩<=16*(tinyL L).h-1:=cutI_range y 0 (16*(tinyL L).h-1) (by omega)
 have hle:(tinyL L).n<=L.n:=by unfold tinyL; simp only; split<;>omega
 have hu:LsU8 (tinyL L):=ls_u8 fun i hi=>hL i (Nat.lt_of_lt_of_le hi hle)
 refine ⟨hu.nr,fun hc=>?_⟩
 have h0:chkL (tinyL L)=0:=Classical.not_not.1 (of_decide_eq_false hc)
 have hn2:=(chk_ok h0).n
 refine ⟨by omega,by omega,by omega,by omega,by omega,by omega,⟨0,⟨h0,Nat.zero_le _,fun j hj=>absurd hj (Nat.not_lt_zero j)⟩,rfl,rfl,rfl⟩,fun k hk=>?_⟩
 obtain ⟨-,k1,k2⟩:=hk
 have k1:k<=(tinyL L).n:=k1
 refine ⟨fun hlt=>?_,fun hge=>?_⟩
 ·have hlt:k<(tinyL L).n:=by have:=of_decide_eq_true hlt; omega
  have ek:((k:Int)).toNat=k:=rfl
  rw [ek]
  have hm:(tinyL L).n-(k+1)<(tinyL L).n-k:=by omega
  have nxt:(((L.it k).kind≠2)->CoG.b ⟨tinyL L,k,AtL.X ⟨L,x,y⟩,AtL.Y ⟨L,x,y⟩⟩=false)->(unI ⟨L,x,y⟩).pre (k+1):=fun hno=>⟨h0,hlt,fun j hj hj2=>by
   by_cases e:j=k
   ·subst e; exact hno hj2
   ·exact k2 j (by omega) hj2⟩
  refine ⟨by omega,fun h2=>⟨by omega,k+1,nxt fun hc=>absurd (of_decide_eq_true h2) hc,by omega,hm⟩,fun h2=>⟨⟨hu,by omega⟩,?_⟩⟩
  have h2:=of_decide_eq_false h2
  have he:CoG.e ⟨tinyL L,k,AtL.X ⟨L,x,y⟩,AtL.Y ⟨L,x,y⟩⟩=0:=by
   unfold CoG.e
   rw [if_neg (fun hc=>hc h0),if_neg (by simp only; omega)]
   exact if_neg h2
  exact ⟨fun _=>decide_eq_true he,fun hb=>⟨fun _=>decide_eq_true he,fun _=>⟨by omega,k+1,nxt fun _=>hb,by omega,hm⟩⟩⟩
 ·have hk:k=(tinyL L).n:=by have:=of_decide_eq_false hge; omega
  have he:AtL.e ⟨tinyL L,AtL.X ⟨L,x,y⟩,AtL.Y ⟨L,x,y⟩⟩=0:=by
   unfold AtL.e
   rw [if_neg (fun hc=>hc h0),if_neg (by simp only; omega)]
  have hv:∀ j,AtL.v ⟨tinyL L,AtL.X ⟨L,x,y⟩,AtL.Y ⟨L,x,y⟩⟩ j=0:=fun j=>by
   unfold AtL.v
   rw [if_pos he]
   exact cell_no (chk_ok h0) hu (fun t (ht:t<(tinyL L).n) hk2=>no_cov h0 ht hk2 (k2 t (hk▸ht) (fun hc=>by rw [hk2] at hc; exact absurd hc (by decide)))) j
  refine ⟨hu,fun _=>?_,fun hc=>absurd he (of_decide_eq_false hc)⟩
  simp only [hv]
  rfl
end Go.Proofs.Ythappngbapbkfaa.Lul
