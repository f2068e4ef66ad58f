/- Part 7 of the texts that the law's proof leans on. -/
import Derived.Test.YthappngbapbkfaaGreatM6
import Derived.Shelf.Small.Bits
import Derived.Shelf.Small.Wraps
import Derived.Shelf.Strconv.Itoa0
import Derived.Shelf.Slices.Turned
import Derived.Ground.Names2Prog
import Derived.Shelf.Slices.Clone
import Derived.Shelf.Slices.SearchI
import Derived.Ground.SlgnProg
import Derived.Shelf.SlicesE.Clone
import Derived.Test.YthappngbapbkfaaGreatProg
set_option linter.unusedSimpArgs false
set_option linter.unusedVariables false
namespace Go.Proofs.YthappngbapbkfaaGreat.Lsg
open Go.RowKit Sx Num Aff Afi Img Imh Rga Ble
set_option maxRecDepth 100000
structure Stp where
 pos:Int
 ink:Ink
def stpL (s:Stp):List SV:= .int .i64 s.pos::inkL s.ink
structure Src where
 kind:Int
 ink:Ink
 fx:Int
 fy:Int
 tx:Int
 ty:Int
 rad:Int
 ns:Nat
 st:Nat->Stp
 img:ImgG
def srcL (s:Src):List SV:= .int .i64 s.kind::(inkL s.ink++(.int .i64 s.fx:: .int .i64 s.fy:: .int .i64 s.tx:: .int .i64 s.ty:: .int .i64 s.rad:: .sl s.ns 9 (fun i=>lst (stpL (s.st i)))::imgL s.img))
def srcS (s:Src):SV:= .agg 27 (lst (srcL s))
def stpD:SV->Nat->Stp
 | .sl _ _ f=>fun i=>⟨Sx.intOf (f i 0),inkD (fun j=>f i (1+j))⟩
 | _=>fun _=>⟨0,⟨0,0,0,0,0,0,0,0⟩⟩
def srcD (g:Nat->SV):Src:=⟨Sx.intOf (g 0),inkD (fun j=>g (1+j)),Sx.intOf (g 9),Sx.intOf (g 10),Sx.intOf (g 11),Sx.intOf (g 12),Sx.intOf (g 13),aj0 (g 14),stpD (g 14),imgD (fun j=>g (15+j))⟩
theorem ar7 {P:Program}{f:FuncId}{γ γ0:Type}{dec:List SV->Option γ}{args:γ->List SV}{pre pre1:γ->Prop}{res:γ->SV}{dec0:List SV->Option γ0}{args0:γ0->List SV}{pre0:γ0->Prop}{res0:γ0->SV}
  (h1:aa2 P (aa5 f dec args pre1 res)) (h0:aa2 P (aa5 f dec0 args0 pre0 res0))
  (hc:∀ g,pre g->pre1 g\/∃ g0,dec0 (args0 g0)=some g0/\aC0 (args0 g0)/\(args0 g0).all (ac3 6)=true/\pre0 g0/\args g=args0 g0/\res g=res0 g0):aa2 P (aa5 f dec args pre res):=by
 refine ⟨h1.1,fun args H HF nm y _ _ h=>h,fun l H nm y hrun hp w0 X0 E w hrep hf vals ha=>?_⟩
 simp only [aa5] at hrun
 split at hrun
 case h_2=>cases hrun
 rename_i hpu
 split at hrun
 case h_2=>cases hrun
 rename_i g hdec
 cases hrun
 obtain ⟨hle,⟨hpre⟩⟩:=hp
 rcases hc g hpre with h | ⟨g0,e1,e2,e3,e4,e5,e6⟩
 ·refine h1.2.2 l H nm ⟨aa5.leArgs l (args g)/\Sx.Ask (pre1 g),res g,.keep⟩ ?_ ⟨hle,⟨h⟩⟩ w0 X0 E w hrep hf vals ha
  simp only [aa5,hpu,hdec]
 ·obtain ⟨hll,hle⟩:=al9 hle
  have hr:=az5 ha hpu
  have hsz:=ha.1
  have h:=h0.2.2 (args0 g0) H nm ⟨aa5.leArgs (args0 g0) (args0 g0)/\Sx.Ask (pre0 g0),res0 g0,.keep⟩ (by simp only [aa5,e3,e1]) ⟨aq3 e2,⟨e4⟩⟩ w0 X0 E w hrep hf vals
   ⟨by rw [<-e5]; omega,fun i hi=>by
    rw [<-e5] at hi ⊢
    exact up (a15 (fun _ hb=>hb) (hle i hi) (hr i (by omega)))⟩
  rw [e6]
  exact h
theorem spec_none {P:Program}{f:FuncId}{γ γ0:Type}{dec:List SV->Option γ}{args:γ->List SV}{pre0:γ0->Prop}{res:γ->SV}{dec0:List SV->Option γ0}{args0:γ0->List SV}{res0:γ0->SV}
  (h0:aa2 P (aa5 f dec0 args0 pre0 res0)):aa2 P (aa5 f dec args (fun _=>False) res):=by
 refine ⟨h0.1,fun args H HF nm y _ _ h=>h,fun l H nm y hrun hp w0 X0 E w hrep hf vals ha=>?_⟩
 simp only [aa5] at hrun
 split at hrun
 case h_2=>cases hrun
 split at hrun
 case h_2=>cases hrun
 cases hrun
 exact hp.2.out.elim
def srcW (k:Int):Nat:=if k=3 then 1 else 27
def srcN (k:Int):FuncId:=if k=0 then 79 else if k=3 then 82 else 83
def atS (g:ImgG):SV:= .fnb 81 1 (lst [.agg 18 (lst (imgL g++matL (invM g.m)))])
def srcG (s:Src):Nat->SV:=if s.kind=3 then lst [atS s.img] else lst (srcL s)
def srcF (s:Src):SV:= .fn (srcN s.kind) 1 (lst [.ref (srcW s.kind) (srcG s)])
def sp0:FSpec:=aa5 59 (γ:=Src) (fun | [.agg _ g]=>some (srcD g) | _=>none) (fun s=>[srcS s]) (fun s=>s.kind=0) (fun s=> .fn 79 1 (lst [.ref 27 (lst (srcL s))]))
theorem ok_0:aa2 Tryz.prog sp0:=by
 refine aa1 (specs:=[spIof]) (aa9 (⟨ok_iof,trivial⟩)) (eqs:=[]) (fun _ _ h=>(List.not_mem_nil h).elim) Aff.mixed Tryz.func59 rfl (by kernel_rfl) (fun _ _=>by kernel_rfl) (fun g=>A0) (fun g=>Nat.le_of_ble_eq_true (by kernel_rfl)) ?_
 rintro g hg
 refine ab5 (B:=let A:=Sx.Ask;let z5:=(g.img.rep=g.img.rep);let z2:=(IntKind.i64=IntKind.i64);let q2:=fun p:Int=>A z2/\A (p=p);let z1:=(IntKind.u8=IntKind.u8);let q1:=fun p:Int=>A z1/\A (p=p);let z0:=((((((((((((((((((((((((((True/\q2 g.kind)/\q1 g.ink.c0)/\q1 g.ink.c1)/\q1 g.ink.c2)/\q1 g.ink.c3)/\q1 g.ink.c4)/\q1 g.ink.c5)/\q1 g.ink.c6)/\q1 g.ink.c7)/\q2 g.fx)/\q2 g.fy)/\q2 g.tx)/\q2 g.ty)/\q2 g.rad)/\A (g.ns=g.ns)/\∀ i:Nat,i<g.ns->((((((((True/\q2 ((g.st i).pos))/\q1 ((g.st i).ink.c0))/\q1 ((g.st i).ink.c1))/\q1 ((g.st i).ink.c2))/\q1 ((g.st i).ink.c3))/\q1 ((g.st i).ink.c4))/\q1 ((g.st i).ink.c5))/\q1 ((g.st i).ink.c6))/\q1 ((g.st i).ink.c7))/\q2 g.img.w)/\q2 g.img.h)/\A (g.img.n=g.img.n)/\∀ i:Nat,let z3:=(g.img.px i); i<g.img.n->(((((((True/\q1 z3.c0)/\q1 z3.c1)/\q1 z3.c2)/\q1 z3.c3)/\q1 z3.c4)/\q1 z3.c5)/\q1 z3.c6)/\q1 z3.c7)/\A (g.img.sn=g.img.sn)/\∀ i:Nat,i<g.img.sn->True/\q1 (g.img.sf i))/\q2 g.img.m.a)/\q2 g.img.m.b)/\q2 g.img.m.c)/\q2 g.img.m.d)/\q2 g.img.m.e)/\q2 g.img.m.f)/\A (g.img.smooth=g.img.smooth));True/\True/\True/\True/\True/\True/\Sx.Br (decide (g.kind=(0:Int))) (True/\True/\True/\A ((79:Nat)=(79:Go.FuncId))/\True/\z0/\A z5) (True/\True/\Sx.Br (decide (g.kind=(3:Int))) (True/\True/\((((((((((((((True/\q2 g.img.w)/\q2 g.img.h)/\A (g.img.n=g.img.n)/\∀ i:Nat,let z4:=(g.img.px i); i<g.img.n->(((((((True/\q1 z4.c0)/\q1 z4.c1)/\q1 z4.c2)/\q1 z4.c3)/\q1 z4.c4)/\q1 z4.c5)/\q1 z4.c6)/\q1 z4.c7)/\A (g.img.sn=g.img.sn)/\∀ i:Nat,i<g.img.sn->True/\q1 (g.img.sf i))/\q2 g.img.m.a)/\q2 g.img.m.b)/\q2 g.img.m.c)/\q2 g.img.m.d)/\q2 g.img.m.e)/\q2 g.img.m.f)/\A (g.img.smooth=g.img.smooth))/\A z5)/\True)/\A True)/\True/\True/\True/\True/\True/\True/\A ((82:Nat)=(79:Go.FuncId))/\True/\False) (True/\True/\True/\A ((83:Nat)=(79:Go.FuncId))/\True/\z0/\A z5))) (by kernel_rfl) ?_
 simp only [aa4,aa8,eq_self,true_and,and_true,implies_true,forall_const,decide_eq_true_eq,decide_eq_false_iff_not,ne_eq,Nat.mul_one,Nat.add_zero,Nat.zero_add]
 omega
def sp3:FSpec:=aa5 59 (γ:=Src) (fun | [.agg _ g]=>some (srcD g) | _=>none) (fun s=>[srcS s]) (fun s=>s.kind=3) (fun s=> .fn 82 1 (lst [.ref 1 (lst [atS s.img])]))
theorem ok_3:aa2 Tryz.prog sp3:=by
 refine aa1 (specs:=[spIof]) (aa9 (⟨ok_iof,trivial⟩)) (eqs:=[]) (fun _ _ h=>(List.not_mem_nil h).elim) Aff.mixed Tryz.func59 rfl (by kernel_rfl) (fun _ _=>by kernel_rfl) (fun g=>A0) (fun g=>Nat.le_of_ble_eq_true (by kernel_rfl)) ?_
 rintro g hg
 refine ab5 (B:=let A:=Sx.Ask;let z3:=(Afi.invM g.img.m);let z2:=(IntKind.u8=IntKind.u8);let q2:=fun p:Int=>A z2/\A (p=p);let z1:=(IntKind.i64=IntKind.i64);let q1:=fun p:Int=>A z1/\A (p=p);let z0:=((((((((((((True/\q1 g.img.w)/\q1 g.img.h)/\A (g.img.n=g.img.n)/\∀ i:Nat,let z4:=(g.img.px i); i<g.img.n->(((((((True/\q2 z4.c0)/\q2 z4.c1)/\q2 z4.c2)/\q2 z4.c3)/\q2 z4.c4)/\q2 z4.c5)/\q2 z4.c6)/\q2 z4.c7)/\A (g.img.sn=g.img.sn)/\∀ i:Nat,i<g.img.sn->True/\q2 (g.img.sf i))/\q1 g.img.m.a)/\q1 g.img.m.b)/\q1 g.img.m.c)/\q1 g.img.m.d)/\q1 g.img.m.e)/\q1 g.img.m.f)/\A (g.img.smooth=g.img.smooth))/\A (g.img.rep=g.img.rep));True/\True/\True/\True/\True/\True/\Sx.Br (decide (g.kind=(0:Int))) (True/\True/\True/\A ((79:Nat)=(82:Go.FuncId))/\True/\True/\False) (True/\True/\Sx.Br (decide (g.kind=(3:Int))) (True/\True/\((z0/\True)/\A True)/\True/\True/\True/\True/\True/\True/\A ((82:Nat)=(82:Go.FuncId))/\True/\True/\A ((81:Nat)=(81:Go.FuncId))/\True/\(((((z0/\q1 z3.a)/\q1 z3.b)/\q1 z3.c)/\q1 z3.d)/\q1 z3.e)/\q1 z3.f) (True/\True/\True/\A ((83:Nat)=(82:Go.FuncId))/\True/\True/\False))) (by kernel_rfl) ?_
 simp only [aa4,aa8,eq_self,true_and,and_true,implies_true,forall_const,decide_eq_true_eq,decide_eq_false_iff_not,ne_eq,Nat.mul_one,Nat.add_zero,Nat.zero_add]
 omega
def sp12:FSpec:=aa5 59 (γ:=Src) (fun | [.agg _ g]=>some (srcD g) | _=>none) (fun s=>[srcS s]) (fun s=>s.kind≠0/\s.kind≠3) (fun s=> .fn 83 1 (lst [.ref 27 (lst (srcL s))]))
theorem ok_12:aa2 Tryz.prog sp12:=by
 refine aa1 (specs:=[spIof]) (aa9 (⟨ok_iof,trivial⟩)) (eqs:=[]) (fun _ _ h=>(List.not_mem_nil h).elim) Aff.mixed Tryz.func59 rfl (by kernel_rfl) (fun _ _=>by kernel_rfl) (fun g=>A0) (fun g=>Nat.le_of_ble_eq_true (by kernel_rfl)) ?_
 rintro g ⟨h1,h2⟩
 refine ab5 (B:=let A:=Sx.Ask;let z5:=(g.img.rep=g.img.rep);let z2:=(IntKind.i64=IntKind.i64);let q2:=fun p:Int=>A z2/\A (p=p);let z1:=(IntKind.u8=IntKind.u8);let q1:=fun p:Int=>A z1/\A (p=p);let z0:=((((((((((((((((((((((((((True/\q2 g.kind)/\q1 g.ink.c0)/\q1 g.ink.c1)/\q1 g.ink.c2)/\q1 g.ink.c3)/\q1 g.ink.c4)/\q1 g.ink.c5)/\q1 g.ink.c6)/\q1 g.ink.c7)/\q2 g.fx)/\q2 g.fy)/\q2 g.tx)/\q2 g.ty)/\q2 g.rad)/\A (g.ns=g.ns)/\∀ i:Nat,i<g.ns->((((((((True/\q2 ((g.st i).pos))/\q1 ((g.st i).ink.c0))/\q1 ((g.st i).ink.c1))/\q1 ((g.st i).ink.c2))/\q1 ((g.st i).ink.c3))/\q1 ((g.st i).ink.c4))/\q1 ((g.st i).ink.c5))/\q1 ((g.st i).ink.c6))/\q1 ((g.st i).ink.c7))/\q2 g.img.w)/\q2 g.img.h)/\A (g.img.n=g.img.n)/\∀ i:Nat,let z3:=(g.img.px i); i<g.img.n->(((((((True/\q1 z3.c0)/\q1 z3.c1)/\q1 z3.c2)/\q1 z3.c3)/\q1 z3.c4)/\q1 z3.c5)/\q1 z3.c6)/\q1 z3.c7)/\A (g.img.sn=g.img.sn)/\∀ i:Nat,i<g.img.sn->True/\q1 (g.img.sf i))/\q2 g.img.m.a)/\q2 g.img.m.b)/\q2 g.img.m.c)/\q2 g.img.m.d)/\q2 g.img.m.e)/\q2 g.img.m.f)/\A (g.img.smooth=g.img.smooth));True/\True/\True/\True/\True/\True/\Sx.Br (decide (g.kind=(0:Int))) (True/\True/\True/\A ((79:Nat)=(83:Go.FuncId))/\True/\z0/\A z5) (True/\True/\Sx.Br (decide (g.kind=(3:Int))) (True/\True/\((((((((((((((True/\q2 g.img.w)/\q2 g.img.h)/\A (g.img.n=g.img.n)/\∀ i:Nat,let z4:=(g.img.px i); i<g.img.n->(((((((True/\q1 z4.c0)/\q1 z4.c1)/\q1 z4.c2)/\q1 z4.c3)/\q1 z4.c4)/\q1 z4.c5)/\q1 z4.c6)/\q1 z4.c7)/\A (g.img.sn=g.img.sn)/\∀ i:Nat,i<g.img.sn->True/\q1 (g.img.sf i))/\q2 g.img.m.a)/\q2 g.img.m.b)/\q2 g.img.m.c)/\q2 g.img.m.d)/\q2 g.img.m.e)/\q2 g.img.m.f)/\A (g.img.smooth=g.img.smooth))/\A z5)/\True)/\A True)/\True/\True/\True/\True/\True/\True/\A ((82:Nat)=(83:Go.FuncId))/\True/\False) (True/\True/\True/\A ((83:Nat)=(83:Go.FuncId))/\True/\z0/\A z5))) (by kernel_rfl) ?_
 simp only [aa4,aa8,eq_self,true_and,and_true,implies_true,forall_const,decide_eq_true_eq,decide_eq_false_iff_not,ne_eq,Nat.mul_one,Nat.add_zero,Nat.zero_add]
 omega
theorem ac5 {l:List SV}(h:∀ s∈l,ae7 s):∀ i,ae7 (lst l i):=by
 refine as5 ?_
 induction l with
 | nil=>trivial
 | cons a l ih=>exact ⟨h a List.mem_cons_self,ih fun s hs=>h s (List.mem_cons_of_mem _ hs)⟩
theorem aR8 (k:Ink):∀ s∈inkL k,ae7 s:=by intro s hs; simp only [inkL,List.mem_cons,List.not_mem_nil,or_false] at hs; rcases hs with rfl | rfl | rfl | rfl | rfl | rfl | rfl | rfl<;>trivial
theorem stpL_own (k:Stp):∀ s∈stpL k,ae7 s:=by
 intro s hs
 rcases List.mem_cons.1 hs with rfl | hs
 ·trivial
 ·exact aR8 _ s hs
theorem imgL_own (k:ImgG):∀ s∈imgL k,ae7 s:=by
 intro s hs
 simp only [imgL,List.mem_cons,List.not_mem_nil,or_false] at hs
 rcases hs with rfl | rfl | rfl | rfl | rfl | rfl | rfl | rfl | rfl | rfl | rfl | rfl
 case inr.inr.inl=>exact fun i j=>ac5 (aR8 _) j
 case inr.inr.inr.inl=>exact fun i j=>trivial
 all_goals trivial
theorem aQ0 (k:Src):∀ s∈srcL k,ae7 s:=by
 intro s hs
 simp only [srcL,List.mem_cons,List.mem_append] at hs
 rcases hs with rfl | h | rfl | rfl | rfl | rfl | rfl | rfl | h
 case inr.inl=>exact aR8 _ s h
 case inr.inr.inr.inr.inr.inr.inr.inl=>exact fun i j=>ac5 (stpL_own _) j
 case inr.inr.inr.inr.inr.inr.inr.inr=>exact imgL_own _ s h
 all_goals trivial
def bb3:FSpec:=aa5 59 (γ:=Src) (fun | [.agg _ g]=>some (srcD g) | _=>none) (fun s=>[srcS s]) (fun _=>True) srcF
theorem ok_source:aa2 Tryz.prog bb3:=by
 have hown:∀ g,aC0 [srcS g]:=fun g=>⟨fun i=>ac5 (aQ0 g) i,trivial⟩
 have h1:aa2 Tryz.prog (aa5 59 (γ:=Src) (fun | [.agg _ g]=>some (srcD g) | _=>none) (fun s=>[srcS s]) (fun s=>s.kind=0) srcF):=
  ar7 (spec_none ok_0) ok_0 fun g hg=> .inr ⟨g,rfl,hown g,rfl,hg,rfl,by simp [srcF,srcN,srcW,srcG,hg]⟩
 have h2:aa2 Tryz.prog (aa5 59 (γ:=Src) (fun | [.agg _ g]=>some (srcD g) | _=>none) (fun s=>[srcS s]) (fun s=>s.kind=0\/s.kind=3) srcF):=
  ar7 h1 ok_3 fun g hg=>hg.elim .inl fun h=> .inr ⟨g,rfl,hown g,rfl,h,rfl,by simp [srcF,srcN,srcW,srcG,h]⟩
 refine ar7 h2 ok_12 fun g _=>?_
 by_cases h:g.kind=0\/g.kind=3
 ·exact .inl h
 ·exact .inr ⟨g,rfl,hown g,rfl,⟨fun hc=>h (.inl hc),fun hc=>h (.inr hc)⟩,rfl,by simp [srcF,srcN,srcW,srcG,show ¬ g.kind=0 from fun hc=>h (.inl hc),show ¬ g.kind=3 from fun hc=>h (.inr hc)]⟩
structure It where
 kind:Int
 nr:Nat
 runs:Nat->Rn
 src:Src
 alpha:Int
 blend:Int
 over:Bool
 iso:Bool
 knock:Bool
def qI (P:Prop) (k l:Img.Ink):Prop:=((((((((P/\Sx.Ask (IntKind.u8=IntKind.u8)/\Sx.Ask (k.c0=l.c0))/\Sx.Ask (IntKind.u8=IntKind.u8)/\Sx.Ask (k.c1=l.c1))/\Sx.Ask (IntKind.u8=IntKind.u8)/\Sx.Ask (k.c2=l.c2))/\Sx.Ask (IntKind.u8=IntKind.u8)/\Sx.Ask (k.c3=l.c3))/\Sx.Ask (IntKind.u8=IntKind.u8)/\Sx.Ask (k.c4=l.c4))/\Sx.Ask (IntKind.u8=IntKind.u8)/\Sx.Ask (k.c5=l.c5))/\Sx.Ask (IntKind.u8=IntKind.u8)/\Sx.Ask (k.c6=l.c6))/\Sx.Ask (IntKind.u8=IntKind.u8)/\Sx.Ask (k.c7=l.c7))
def qM (P:Prop) (k l:Aff.Mat):Prop:=((((((P/\Sx.Ask (IntKind.i64=IntKind.i64)/\Sx.Ask (k.a=l.a))/\Sx.Ask (IntKind.i64=IntKind.i64)/\Sx.Ask (k.b=l.b))/\Sx.Ask (IntKind.i64=IntKind.i64)/\Sx.Ask (k.c=l.c))/\Sx.Ask (IntKind.i64=IntKind.i64)/\Sx.Ask (k.d=l.d))/\Sx.Ask (IntKind.i64=IntKind.i64)/\Sx.Ask (k.e=l.e))/\Sx.Ask (IntKind.i64=IntKind.i64)/\Sx.Ask (k.f=l.f))
def qG (P:Prop) (k l:Img.ImgG):Prop:=((qM ((((P/\Sx.Ask (IntKind.i64=IntKind.i64)/\Sx.Ask (k.w=l.w))/\Sx.Ask (IntKind.i64=IntKind.i64)/\Sx.Ask (k.h=l.h))/\Sx.Ask (k.n=l.n)/\∀ i:Nat,i<l.n->qI True (k.px i) (l.px i))/\Sx.Ask (k.sn=l.sn)/\∀ i:Nat,i<l.sn->True/\Sx.Ask (IntKind.u8=IntKind.u8)/\Sx.Ask (k.sf i=l.sf i)) k.m l.m/\Sx.Ask (k.smooth=l.smooth))/\Sx.Ask (k.rep=l.rep))
def qS (P:Prop) (k l:Src):Prop:=qG ((((((qI (P/\Sx.Ask (IntKind.i64=IntKind.i64)/\Sx.Ask (k.kind=l.kind)) k.ink l.ink/\Sx.Ask (IntKind.i64=IntKind.i64)/\Sx.Ask (k.fx=l.fx))/\Sx.Ask (IntKind.i64=IntKind.i64)/\Sx.Ask (k.fy=l.fy))/\Sx.Ask (IntKind.i64=IntKind.i64)/\Sx.Ask (k.tx=l.tx))/\Sx.Ask (IntKind.i64=IntKind.i64)/\Sx.Ask (k.ty=l.ty))/\Sx.Ask (IntKind.i64=IntKind.i64)/\Sx.Ask (k.rad=l.rad))/\Sx.Ask (k.ns=l.ns)/\∀ i:Nat,i<l.ns->qI (True/\Sx.Ask (IntKind.i64=IntKind.i64)/\Sx.Ask ((k.st i).pos=(l.st i).pos)) (k.st i).ink (l.st i).ink) k.img l.img
def qT (P:Prop) (k l:It):Prop:=(((((qS ((P/\Sx.Ask (IntKind.i64=IntKind.i64)/\Sx.Ask (k.kind=l.kind))/\Sx.Ask (k.nr=l.nr)/\∀ i:Nat,i<l.nr->((True/\Sx.Ask (IntKind.i64=IntKind.i64)/\Sx.Ask ((k.runs i).y=(l.runs i).y))/\Sx.Ask (IntKind.i64=IntKind.i64)/\Sx.Ask ((k.runs i).x0=(l.runs i).x0))/\Sx.Ask (IntKind.i64=IntKind.i64)/\Sx.Ask ((k.runs i).x1=(l.runs i).x1)) k.src l.src/\Sx.Ask (IntKind.u8=IntKind.u8)/\Sx.Ask (k.alpha=l.alpha))/\Sx.Ask (IntKind.i64=IntKind.i64)/\Sx.Ask (k.blend=l.blend))/\Sx.Ask (k.over=l.over))/\Sx.Ask (k.iso=l.iso))/\Sx.Ask (k.knock=l.knock))
def qV (P:Prop) (f g:Nat->Sx.SV):Prop:=(((((((((((((((((((((((((((((((((((((P/\Sx.SVle [] [] (f 0) (g 0))/\Sx.SVle [] [] (f 1) (g 1))/\Sx.SVle [] [] (f 2) (g 2))/\Sx.SVle [] [] (f 3) (g 3))/\Sx.SVle [] [] (f 4) (g 4))/\Sx.SVle [] [] (f 5) (g 5))/\Sx.SVle [] [] (f 6) (g 6))/\Sx.SVle [] [] (f 7) (g 7))/\Sx.SVle [] [] (f 8) (g 8))/\Sx.SVle [] [] (f 9) (g 9))/\Sx.SVle [] [] (f 10) (g 10))/\Sx.SVle [] [] (f 11) (g 11))/\Sx.SVle [] [] (f 12) (g 12))/\Sx.SVle [] [] (f 13) (g 13))/\Sx.SVle [] [] (f 14) (g 14))/\Sx.SVle [] [] (f 15) (g 15))/\Sx.SVle [] [] (f 16) (g 16))/\Sx.SVle [] [] (f 17) (g 17))/\Sx.SVle [] [] (f 18) (g 18))/\Sx.SVle [] [] (f 19) (g 19))/\Sx.SVle [] [] (f 20) (g 20))/\Sx.SVle [] [] (f 21) (g 21))/\Sx.SVle [] [] (f 22) (g 22))/\Sx.SVle [] [] (f 23) (g 23))/\Sx.SVle [] [] (f 24) (g 24))/\Sx.SVle [] [] (f 25) (g 25))/\Sx.SVle [] [] (f 26) (g 26))/\Sx.SVle [] [] (f 27) (g 27))/\Sx.SVle [] [] (f 28) (g 28))/\Sx.SVle [] [] (f 29) (g 29))/\Sx.SVle [] [] (f 30) (g 30))/\Sx.SVle [] [] (f 31) (g 31))/\Sx.SVle [] [] (f 32) (g 32))/\Sx.SVle [] [] (f 33) (g 33))/\Sx.SVle [] [] (f 34) (g 34))/\Sx.SVle [] [] (f 35) (g 35))/\Sx.SVle [] [] (f 36) (g 36))
def itL (x:It):List SV:= .int .i64 x.kind:: .sl x.nr 3 (fun i=>lst (rnL (x.runs i)))::(srcL x.src++[.int .u8 x.alpha,.int .i64 x.blend,.bool x.over,.bool x.iso,.bool x.knock])
def rgfD:SV->Nat->Rn
 | .sl _ _ f=>fun i=>rnD (f i)
 | _=>fun _=>⟨0,0,0⟩
def itD (g:Nat->SV):It:=⟨Sx.intOf (g 0),aj0 (g 1),rgfD (g 1),srcD (fun j=>g (2+j)),Sx.intOf (g 29),Sx.intOf (g 30),az4 (g 31),az4 (g 32),az4 (g 33)⟩
structure LsG where
 w:Int
 h:Int
 ni:Nat
 nm:Nat->ByteArray
 n:Nat
 it:Nat->It
def strOf:SV->ByteArray
 | .str s=>s
 | _=>ByteArray.empty
def nmD:SV->Nat->ByteArray
 | .sl _ _ f=>fun i=>strOf (f i 0)
 | _=>fun _=>ByteArray.empty
def itsD:SV->Nat->It
 | .sl _ _ f=>fun i=>itD (f i)
 | _=>fun _=>itD (fun _=> .any)
def lsL (g:LsG):List SV:=[.int .i64 g.w,.int .i64 g.h,.sl g.ni 1 (fun i _=> .str (g.nm i)),.sl g.n 34 (fun i=>lst (itL (g.it i)))]
def lsS (g:LsG):SV:= .agg 4 (lst (lsL g))
def lsD (g:Nat->SV):LsG:=⟨Sx.intOf (g 0),Sx.intOf (g 1),aj0 (g 2),nmD (g 2),aj0 (g 3),itsD (g 3)⟩
end Go.Proofs.YthappngbapbkfaaGreat.Lsg
set_option linter.unusedSimpArgs false
set_option linter.unusedVariables false
namespace Go.Proofs.YthappngbapbkfaaGreat.Lta
open Go.RowKit Sx Num Aff Afi Img Imh Rga Blend Ble Lsg
set_option maxRecDepth 100000
structure Bld where
 n:Nat
 d:Nat
 it:Nat->Nat
 m:Nat->Nat
 kid:Nat->Nat->Option Nat
 leaf:Nat->Nat->Nat
 stk:Nat->Nat
def Bld.top (B:Bld):Nat:=B.stk (B.d-1)
def Bld.push (B:Bld) (k:Option Nat) (i:Nat):Bld:=
 { B with m:=fun g=>if g=B.top then B.m g+1 else B.m g,kid:=fun g a=>if g=B.top/\a=B.m g then k else B.kid g a,leaf:=fun g a=>if g=B.top/\a=B.m g then i else B.leaf g a }
def Bld.bgn (B:Bld) (i:Nat):Bld:=
 { n:=B.n+1,d:=B.d+1,it:=fun g=>if g=B.n then i else B.it g,m:=fun g=>if g=B.n then 0 else (B.push (some B.n) i).m g,kid:=(B.push (some B.n) i).kid,leaf:=(B.push (some B.n) i).leaf,stk:=fun j=>if j=B.d then B.n else B.stk j }
def aF2 (B:Bld) (k:Int) (i:Nat):Bld:=if k=0 then B.push none i else if k=1 then B.bgn i else { B with d:=B.d-1 }
def bld (L:LsG):Nat->Bld
 | 0=>⟨1,1,fun _=>0,fun _=>0,fun _ _=>none,fun _ _=>0,fun _=>0⟩
 | i+1=>aF2 (bld L i) (L.it i).kind i
structure BldOK (B:Bld) (i:Nat):Prop where
 d1:1<=B.d
 d2:B.d<=i+1
 n1:1<=B.n
 n2:B.n<=i+1
 stk:∀ j,j<B.d->B.stk j<B.n
 m:∀ g,g<B.n->B.m g<=i
 kid:∀ g a k,g<B.n->a<B.m g->B.kid g a=some k->g<k/\k<B.n
structure LsOK (L:LsG):Prop where
 n:L.n<=5000
 kind:∀ i,i<L.n->0<=(L.it i).kind/\(L.it i).kind<=2
 blend:∀ i,i<L.n->0<=(L.it i).blend/\(L.it i).blend<=11
 deep:∀ i,i<L.n->(L.it i).kind=2->2<=(bld L i).d
theorem BldOK.top {B i} (h:BldOK B i):B.top<B.n:=h.stk _ (by have:=h.d1; omega)
theorem BldOK.push {B:Bld}{i k j} (h:BldOK B i) (hk:∀ q,k=some q->B.top<q/\q<B.n):BldOK (B.push k j) (i+1):=by
 refine ⟨h.d1,by have:=h.d2; show B.d<=_; omega,h.n1,by have:=h.n2; show B.n<=_; omega,h.stk,fun g hg=>?_,fun g a q hg ha hq=>?_⟩
 ·have:=h.m g hg
  simp only [Bld.push]
  split<;>omega
 ·simp only [Bld.push] at ha hq
  split at hq
  ·rename_i hc
   rw [hc.1]
   exact hk q hq
  ·rename_i hc
   refine h.kid g a q hg ?_ hq
   split at ha
   ·rename_i hg'
    have:a≠B.m g:=fun e=>hc ⟨hg',e⟩
    omega
   ·exact ha
theorem BldOK.bgn {B:Bld}{i j} (h:BldOK B i):BldOK (B.bgn j) (i+1):=by
 have ht:=h.top
 refine ⟨Nat.succ_pos _,by have:=h.d2; show B.d+1<=_; omega,Nat.succ_pos _,by have:=h.n2; show B.n+1<=_; omega,fun q hq=>?_,fun g hg=>?_,fun g a q hg ha hq=>?_⟩
 ·show (if q=B.d then B.n else B.stk q)<B.n+1
  have hq:q<B.d+1:=hq
  split
  ·omega
  ·have:=h.stk q (by omega); omega
 ·show (if g=B.n then 0 else (B.push (some B.n) j).m g)<=i+1
  split
  ·omega
  ·have hg:g<B.n+1:=hg
   have:=h.m g (by omega)
   simp only [Bld.push]
   split<;>omega
 ·have ha:a<(if g=B.n then 0 else (B.push (some B.n) j).m g):=ha
  have hg:g<B.n+1:=hg
  split at ha
  ·omega
  ·have hq:(B.push (some B.n) j).kid g a=some q:=hq
   show g<q/\q<B.n+1
   simp only [Bld.push] at ha hq
   split at hq
   ·rename_i hc
    cases hq
    omega
   ·rename_i hc
    have:=h.kid g a q (by omega) (by
     split at ha
     ·rename_i hg'
      have:a≠B.m g:=fun e=>hc ⟨hg',e⟩
      omega
     ·exact ha) hq
    omega
theorem al1 {L:LsG}(h:LsOK L):∀ i,i<=L.n->BldOK (bld L i) i
 | 0,_=>⟨Nat.le_refl _,Nat.le_refl _,Nat.le_refl _,Nat.le_refl _,fun _ _=>Nat.one_pos,fun _ _=>Nat.zero_le _,fun _ _ _ _ ha=>absurd ha (Nat.not_lt_zero _)⟩
 | i+1,hi=>by
  have hb:=al1 h i (by omega)
  simp only [bld,aF2]
  split
  ·exact hb.push fun q hq=>(nomatch hq)
  ·split
   ·exact hb.bgn
   ·rename_i h0 h1
    have hk:=h.kind i (by omega)
    have hd:=h.deep i (by omega) (by omega)
    exact ⟨by show 1<=(bld L i).d-1; omega,by have:=hb.d2; show (bld L i).d-1<=_; omega,hb.n1,by have:=hb.n2; show (bld L i).n<=_; omega,fun j hj=>hb.stk j (by have hj:j<(bld L i).d-1:=hj; omega),fun g hg=>by have:=hb.m g hg; show (bld L i).m g<=_; omega,hb.kid⟩
abbrev TG:TypeId:=127
abbrev TM:TypeId:=137
abbrev TPg:TypeId:=73
abbrev TPf:TypeId:=129
def ptrV (b:Nat):Value:= .pointer (some ⟨b,0,none⟩)
def zSrc:Src:=⟨0,⟨0,0,0,0,0,0,0,0⟩,0,0,0,0,0,0,fun _=>⟨0,⟨0,0,0,0,0,0,0,0⟩⟩,⟨0,0,0,fun _=>⟨0,0,0,0,0,0,0,0⟩,0,fun _=>0,⟨0,0,0,0,0,0⟩,false,false⟩⟩
def zIt:It:=⟨0,0,fun _=>⟨0,0,0⟩,zSrc,0,0,false,false,false⟩
def mixS (x:It):SV:=inks1S (aa6 x.blend.toNat)
def pageL:List SV:=itL zIt++[.int .i64 (-1),.nilfn]
def grpL (L:LsG) (t:Nat):List SV:=itL (L.it t)++[.int .i64 t,mixS (L.it t)]
def fillL (L:LsG) (t:Nat):List SV:=itL (L.it t)++[.int .i64 t,srcF (L.it t).src,mixS (L.it t)]
def av7 (L:LsG) (t:Nat):SV:= .ref 37 (lst (fillL L t))
def hdF (L:LsG) (B:Bld) (g j:Nat):SV:=lst (if g=0 then pageL else grpL L (B.it g)) j
def pF (L:LsG) (B:Bld) (b:Nat->Nat) (g a:Nat):SV:=match B.kid g a with
 | some k=> .ifc TPg (fun _=> .con (ptrV (b k)))
 | none=> .ifc TPf (fun _=>av7 L (B.leaf g a))
def fam (L:LsG) (B:Bld) (b:Nat->Nat) (c:Nat->Option Nat):GF:=⟨B.n,b,c,hdF L B,B.m,pF L B b,none,fun _=>undef,fun _=>undef⟩
def lfC (L:LsG) (B:Bld) (g a:Nat):Nat->SV:=lst (fillL L (B.leaf g a))
def grpC (L:LsG) (B:Bld) (f g:Nat):Nat->SV:=gC TPg TPf (hdF L B) B.m (lfC L B) B.kid f g
def grpS (L:LsG) (B:Bld) (f g:Nat):SV:= .ref 37 (grpC L B f g)
def lsO (L:LsG):SO:= .cells 4 (lst (lsL L)) 25
def tau (L:LsG) (i:Nat) (b:Nat->Nat):Tmps:=[(14,.sl L.n 34 (fun i=>lst (itL (L.it i)))),(15,.int .i64 L.n),(16,.int .i64 i),(10,.own 1 0),(3,.con (ptrV (b 0))),(4,.osl 2 0)]
def opn (B:Bld) (b:Nat->Nat) (j:Nat):Nat:=if j<B.d then b (B.stk j) else 0
def au2 (B:Bld) (b:Nat->Nat):SO:= .row 0 B.d 1 (fun j _=> .con (ptrV (opn B b j))) TPg
def itO (L:LsG) (i:Nat):SO:= .cells 34 (lst (itL (L.it i))) 50
def famO (F:GF):SO:= .cus (gfQ TG TM F)
structure TrG where
 i:Nat
 b:Nat->Nat
 c:Nat->Option Nat
def lpI (L:LsG):Inv:=⟨TrG,fun g=>g.i<=L.n,fun g=>⟨tau L g.i g.b,[.dead,famO (fam L (bld L g.i) g.b g.c),au2 (bld L g.i) g.b]⟩,fun g=>L.n-g.i⟩
def A1 (L:LsG):Inv:=⟨Unit,fun _=>True,fun _=>⟨(3,.own 1 0)::[(10,.own 1 0),(1,.own 0 0)],[lsO L,.cells 37 (lst (pageL++[.cap0])) TG]⟩,fun _=>0⟩
def A2 (L:LsG):Inv:=⟨Nat,fun _=>True,fun b=>⟨(3,.con (ptrV b))::[(10,.own 1 0),(1,.own 0 0)],[lsO L,famO (fam L (bld L 0) (fun _=>b) (fun _=>none))]⟩,fun _=>0⟩
def B1 (L:LsG) (q:Nat):Inv:=⟨TrG,fun g=>(g.i=q/\g.i<L.n)/\(L.it g.i).kind=0,fun g=>⟨(7,.con (ptrV (g.b (bld L g.i).top)))::(26,.con (ptrV (g.b (bld L g.i).top)))::((5,.int .i64 g.i)::(6,.own 3 0)::tau L g.i g.b),[.dead,famO (fam L (bld L g.i) g.b g.c),au2 (bld L g.i) g.b,itO L g.i]⟩,fun _=>0⟩
structure TkG where
 t:TrG
 hv:Nat->Value
 mv:Nat->Value
def B2 (L:LsG) (q:Nat):Inv:=⟨TkG,fun g=>(g.t.i=q/\g.t.i<L.n)/\(L.it g.t.i).kind=0,fun g=>⟨(7,.own 4 0)::(26,.pin 4 (g.t.b (bld L g.t.i).top))::((5,.int .i64 g.t.i)::(6,.own 3 0)::tau L g.t.i g.t.b),
 [.dead,famO ((fam L (bld L g.t.i) g.t.b g.t.c).take (bld L g.t.i).top g.hv g.mv),au2 (bld L g.t.i) g.t.b,itO L g.t.i,.cells 37 (topC g.hv 5) TG,.row 0 ((bld L g.t.i).m (bld L g.t.i).top) 1 (fun a _=> .con (g.mv a)) TM]⟩,fun _=>0⟩
def memP (m:Nat) (mv:Nat->Value) (x:SV) (a:Nat):SV:=if a<m then .con (mv a) else x
def C1 (L:LsG) (q:Nat):Inv:=⟨TkG,fun g=>(g.t.i=q/\g.t.i<L.n)/\(L.it g.t.i).kind=0,fun g=>⟨(26,.pin 4 (g.t.b (bld L g.t.i).top))::tau L g.t.i g.t.b,
 [.dead,famO ((fam L (bld L g.t.i) g.t.b g.t.c).take (bld L g.t.i).top g.hv g.mv),au2 (bld L g.t.i) g.t.b,.dead,.cells 37 (topC g.hv 5) TG,.row 0 ((bld L g.t.i).m (bld L g.t.i).top+1) 1 (fun a _=>memP ((bld L g.t.i).m (bld L g.t.i).top) g.mv (.ifc TPf (fun _=>av7 L g.t.i)) a) TM]⟩,fun _=>0⟩
def C2 (L:LsG) (q:Nat):Inv:=⟨TrG,fun g=>(g.i=q/\g.i<L.n)/\(L.it g.i).kind=0,fun g=>⟨(26,.any)::tau L g.i g.b,[.dead,famO (fam L (bld L (g.i+1)) g.b g.c),au2 (bld L (g.i+1)) g.b,.dead,.dead,.dead]⟩,fun _=>0⟩
theorem as6 (x:It):∀ s∈itL x,ae7 s:=by
 intro s hs
 simp only [itL,List.mem_cons,List.mem_append,List.not_mem_nil,or_false] at hs
 rcases hs with rfl | rfl | h | rfl | rfl | rfl | rfl | rfl
 case inr.inl=>exact fun i j=>ac5 (fun s hs=>by simp only [rnL,List.mem_cons,List.not_mem_nil,or_false] at hs; rcases hs with rfl | rfl | rfl<;>trivial) j
 case inr.inr.inl=>exact aQ0 _ s h
 all_goals trivial
theorem a38 {l m:List SV}{j:Nat}(h:j<l.length):lst (l++m) j=lst l j:=by
 induction l generalizing j with
 | nil=>exact absurd h (Nat.not_lt_zero _)
 | cons a l ih=>cases j with
  | zero=>rfl
  | succ j=>exact ih (Nat.lt_of_succ_lt_succ h)
theorem handA (L:LsG):ak6 82 0 (A1 L) [A2 L]:=by
 rintro _ _ w0 X0 a w _ ⟨E,hrep,htr⟩
 obtain ⟨b,h1,h2⟩:=ak5 (show R w _ E (.own 1 0) (a.tmps.getD 10 undef) from htr.2.2 10 (by omega))
 obtain ⟨b',h3,h4⟩:=ak5 (show R w _ E (.own 1 0) (a.tmps.getD 3 undef) from htr.2.2 3 (by omega))
 have:b=b':=by rw [h1] at h3; cases h3; rfl
 subst this
 obtain ⟨r1,r2⟩:=hrep.gnew (K:=1) TM rfl h1 (g:=lst (pageL++[.cap0])) (fun j hj=>by
  refine ac5 (fun s hs=>?_) j
  simp only [pageL,List.append_assoc,List.mem_append,List.mem_cons,List.not_mem_nil,or_false] at hs
  rcases hs with hs | (rfl | rfl) | rfl
  ·exact as6 _ s hs
  all_goals trivial) rfl
 obtain ⟨q1,q2⟩:=r1.gle (k:=1) rfl (GF.same (F':=fam L (bld L 0) (fun _=>b) (fun _=>none)) rfl rfl rfl (fun _ _=>rfl) (fun _ _=>rfl) (fun i j hi hj=>by
  have hi:i<1:=hi
  have h0:i=0:=by omega
  subst h0
  exact (a38 (l:=pageL) hj).symm) (fun _ _=>rfl) (fun i a _ ha=>absurd ha (Nat.not_lt_zero _)))
 refine ⟨A2 L,List.mem_singleton.2 rfl,b,trivial,StR.mk1 htr q1 (fun b hb=>r2 b (q2 b hb)) (Env.le_refl _) ?_⟩
 rw [h4]
 exact .con
theorem handB (L:LsG) (h:LsOK L) (q:Nat):ak6 82 0 (B1 L q) [B2 L q]:=by
 rintro g hg0 w0 X0 a w _ ⟨E,hrep,htr⟩
 have hg:g.i<L.n:=hg0.1.2
 have hb:=al1 h g.i (by omega)
 obtain ⟨b,h1,h2⟩:=ak5 (show R w _ E (.own 1 0) (a.tmps.getD 10 undef) from htr.2.2 10 (by omega))
 have h7:=ap3 (show R w _ E (.con (ptrV (g.b (bld L g.i).top))) (a.tmps.getD 7 undef) from htr.2.2 7 (by omega))
 have h26:=ap3 (show R w _ E (.con (ptrV (g.b (bld L g.i).top))) (a.tmps.getD 26 undef) from htr.2.2 26 (by omega))
 obtain ⟨E2,hv,mv,hle,e1,r1,r2⟩:=hrep.gtake (k:=1) (i:=(bld L g.i).top) rfl h1 rfl hb.top
 refine ⟨B2 L q,List.mem_singleton.2 rfl,⟨g,hv,mv⟩,hg0,StR.mk2 htr r1 r2 hle ?_ ?_⟩
 ·rw [h7]; exact .own e1
 ·rw [h26]; exact .pin e1
theorem a00 {w X E k b v} (h:R w X E (.pin k b) v):E k=some (.blk b):=by
 cases h with
 | pin h=>exact h
theorem pF_push {L:LsG}{B:Bld}{b:Nat->Nat}{k:Option Nat}{t g a:Nat}(h:¬ (g=B.top/\a=B.m g)):pF L (B.push k t) b g a=pF L B b g a:=by
 simp only [pF,Bld.push,if_neg h]
theorem pF_push0 {L:LsG}{B:Bld}{b:Nat->Nat}{t:Nat}:pF L (B.push none t) b B.top (B.m B.top) = .ifc TPf (fun _=>av7 L t):=by
 simp only [pF,Bld.push,and_self,if_true]
theorem fam_put {L:LsG}{B B':Bld}{b:Nat->Nat}{c:Nat->Option Nat}{c1:Option Nat}{hv mv:Nat->Value}{x:SV}(hn:B'.n=B.n) (hit:B'.it=B.it) (hm:∀ g,g<B.n->B'.m g=if g=B.top then B.m g+1 else B.m g)
  (hp:∀ g a,g<B.n->¬ (g=B.top/\a=B.m g)->pF L B' b g a=pF L B b g a) (hx:pF L B' b B.top (B.m B.top)=x) :
  CusLe (gfQ TG TM (((fam L B b c).take B.top hv mv).put B.top c1 (B.m B.top+1) (fun a=>memP (B.m B.top) mv x a))) (gfQ TG TM (fam L B' b (fun i=>if i=B.top then c1 else c i))):=by
 refine GF.same hn rfl rfl (fun _ _=>rfl) (fun _ _=>rfl) (fun i j hi hj=>by show hdF L B' i j=hdF L B i j; simp only [hdF,hit]) (fun i hi=>?_) (fun i a hi ha=>?_)
 ·show B'.m i=if i=B.top then B.m B.top+1 else B.m i
  rw [hm i hi]
  split
  ·rename_i he; rw [he]
  ·rfl
 ·have ha:a<(if i=B.top then B.m B.top+1 else B.m i):=ha
  have hi:i<B.n:=hi
  show pF L B' b i a=(if i=B.top then (fun a=>if a<B.m B.top then pF L B b B.top a else memP (B.m B.top) mv x a) else pF L B b i) a
  by_cases hit:i=B.top
  ·subst hit
   rw [if_pos rfl] at ha ⊢
   by_cases ham:a<B.m B.top
   ·simp only [if_pos ham]
    exact hp _ _ hi (fun hc=>by omega)
   ·have:a=B.m B.top:=by omega
    subst this
    simp only [if_neg ham,memP]
    exact hx
  ·rw [if_neg hit]
   exact hp _ _ hi (fun hc=>hit hc.1)
theorem ba8 (hv:Nat->Value) (K:Nat) (j:Nat) (hj:j<36):topC hv K j = .con (hv j):=by
 unfold topC
 rw [show Nat.beq j 36=false by cases hc:Nat.beq j 36 with | true=>exact absurd (Nat.eq_of_beq_eq_true hc) (by omega) | false=>rfl]; rfl
theorem handC (L:LsG) (h:LsOK L) (q:Nat):ak6 82 0 (C1 L q) [C2 L q]:=by
 rintro ⟨g,hv,mv⟩ ⟨hg0,hk⟩ w0 X0 a w _ ⟨E,hrep,htr⟩
 have hg:g.i<L.n:=hg0.2
 have hk:(L.it g.i).kind=0:=hk
 have hb:=al1 h g.i (by omega)
 obtain ⟨b,h1,h2⟩:=ak5 (show R w _ E (.own 1 0) (a.tmps.getD 10 undef) from htr.2.2 10 (by omega))
 have h26:=a00 (show R w _ E (.pin 4 (g.b (bld L g.i).top)) (a.tmps.getD 26 undef) from htr.2.2 26 (by omega))
 obtain ⟨c,r1,r2⟩:=hrep.gput (k:=1) (K1:=4) (K2:=5) (ver:=0) (h:=(bld L g.i).top) rfl h1 rfl hb.top rfl h26 rfl rfl (fun j hj=>ba8 hv 5 j hj) (fun a ha=>if_pos ha)
 have hbld:bld L (g.i+1)=(bld L g.i).push none g.i:=by simp only [bld,aF2,hk,if_true]
 obtain ⟨q1,q2⟩:=r1.gle (k:=1) rfl (fam_put (B':=bld L (g.i+1)) (by rw [hbld]; rfl) (by rw [hbld]; rfl) (fun _ _=>by rw [hbld]; rfl) (fun _ _ _ hc=>by rw [hbld]; exact pF_push hc) (by rw [hbld]; exact pF_push0))
 refine ⟨C2 L q,List.mem_singleton.2 rfl,⟨g.i,g.b,fun i=>if i=(bld L g.i).top then c else g.c i⟩,⟨hg0,hk⟩,?_⟩
 have:=StR.mk1 (s':= .any) htr q1 (fun b hb=>r2 b (q2 b hb)) (Env.le_refl _) .any
 have e1:au2 (bld L (g.i+1)) g.b=au2 (bld L g.i) g.b:=by rw [hbld]; rfl
 show StR w0 X0 82 ⟨(26,.any)::tau L g.i g.b,[.dead,famO (fam L (bld L (g.i+1)) g.b (fun i=>if i=(bld L g.i).top then c else g.c i)),au2 (bld L (g.i+1)) g.b,.dead,.dead,.dead]⟩ a w
 rw [e1]
 exact this
def newL (L:LsG) (t:Nat):List SV:=grpL L t++[.cap0]
def D1 (L:LsG) (q:Nat):Inv:=⟨TrG,fun g=>(g.i=q/\g.i<L.n)/\(L.it g.i).kind=1,fun g=>⟨(8,.own 4 0)::(7,.con (ptrV (g.b (bld L g.i).top)))::(26,.con (ptrV (g.b (bld L g.i).top)))::tau L g.i g.b,[.dead,famO (fam L (bld L g.i) g.b g.c),au2 (bld L g.i) g.b,.dead,.cells 37 (lst (newL L g.i)) TG]⟩,fun _=>0⟩
structure AdG where
 t:TrG
 b1:Nat
 hv:Nat->Value
 mv:Nat->Value
def fam1 (L:LsG) (g:AdG):GF:=((fam L (bld L g.t.i) g.t.b g.t.c).add g.b1 (lst (newL L g.t.i))).take (bld L g.t.i).top g.hv g.mv
def D2 (L:LsG) (q:Nat):Inv:=⟨AdG,fun g=>(g.t.i=q/\g.t.i<L.n)/\(L.it g.t.i).kind=1,fun g=>⟨(8,.con (ptrV g.b1))::(7,.own 5 0)::(26,.pin 5 (g.t.b (bld L g.t.i).top))::tau L g.t.i g.t.b,
 [.dead,famO (fam1 L g),au2 (bld L g.t.i) g.t.b,.dead,.dead,.cells 37 (topC g.hv 6) TG,.row 0 ((bld L g.t.i).m (bld L g.t.i).top) 1 (fun a _=> .con (g.mv a)) TM]⟩,fun _=>0⟩
def E1 (L:LsG) (q:Nat):Inv:=⟨AdG,fun g=>(g.t.i=q/\g.t.i<L.n)/\(L.it g.t.i).kind=1,fun g=>⟨(26,.pin 5 (g.t.b (bld L g.t.i).top))::(8,.con (ptrV g.b1))::tau L g.t.i g.t.b,
 [.dead,famO (fam1 L g),au2 (bld L g.t.i) g.t.b,.dead,.dead,.cells 37 (topC g.hv 6) TG,.row 0 ((bld L g.t.i).m (bld L g.t.i).top+1) 1 (fun a _=>memP ((bld L g.t.i).m (bld L g.t.i).top) g.mv (.ifc TPg (fun _=> .con (ptrV g.b1))) a) TM]⟩,fun _=>0⟩
def E2 (L:LsG) (q:Nat):Inv:=⟨TrG,fun g=>(g.i=q/\g.i<L.n)/\(L.it g.i).kind=1,fun g=>⟨(26,.any)::(8,.con (ptrV (g.b (bld L g.i).n)))::tau L g.i g.b,[.dead,famO (fam L (bld L (g.i+1)) g.b g.c),au2 (bld L g.i) g.b,.dead,.dead,.dead,.dead]⟩,fun _=>0⟩
theorem StR.mk3 {w0 X0 N H H2 E E2 w a τ k s s' k2 s2 s2' k3 s3 s3'} (htr:TR (X0.n0 w0) w (Xo X0 E H) E N ((k,s)::(k2,s2)::(k3,s3)::τ) a) (hr:Rep w0 X0 H2 E2 w) (hx:∀ b,Xo X0 E2 H2 b->Xo X0 E H b) (le:E.le E2)
  (h:R w (Xo X0 E2 H2) E2 s' (a.tmps.getD k undef)) (h2:R w (Xo X0 E2 H2) E2 s2' (a.tmps.getD k2 undef)) (h3:R w (Xo X0 E2 H2) E2 s3' (a.tmps.getD k3 undef)):StR w0 X0 N ⟨(k,s')::(k2,s2')::(k3,s3')::τ,H2⟩ a w:=by
 have h0:=htr.mono (w':=w) (fun _ _ _=>rfl) (fun b _ hb=>hx b hb) le
 refine ⟨E2,hr,h0.1,h0.2.1,fun t ht=>?_⟩
 have ht:=h0.2.2 t ht
 simp only [ac8] at ht ⊢
 by_cases hk:k=t
 ·subst hk; rw [if_pos rfl]; exact h
 ·rw [if_neg hk] at ht ⊢
  by_cases hk2:k2=t
  ·subst hk2; rw [if_pos rfl]; exact h2
  ·rw [if_neg hk2] at ht ⊢
   by_cases hk3:k3=t
   ·subst hk3; rw [if_pos rfl]; exact h3
   ·rw [if_neg hk3] at ht ⊢; exact ht
theorem ax2 (x:It):ae7 (mixS x):=by
 intro i
 refine ac5 (fun s hs=>?_) i
 cases List.mem_singleton.1 hs
 intro i
 refine ac5 (fun s hs=>?_) i
 cases List.mem_singleton.1 hs
 intro i
 refine ac5 (fun s hs=>?_) i
 cases List.mem_singleton.1 hs
 intro i
 refine ac5 (fun s hs=>?_) i
 cases List.mem_singleton.1 hs
 intro i
 trivial
theorem newL_own (L:LsG) (t j:Nat):ae7 (lst (newL L t) j):=by
 refine ac5 (fun s hs=>?_) j
 simp only [newL,grpL,List.append_assoc,List.mem_append,List.mem_cons,List.not_mem_nil,or_false] at hs
 rcases hs with hs | (rfl | rfl) | rfl
 ·exact as6 _ s hs
 ·trivial
 ·exact ax2 _
 ·trivial
theorem handD (L:LsG) (h:LsOK L) (q:Nat):ak6 82 0 (D1 L q) [D2 L q]:=by
 rintro g hg0 w0 X0 a w _ ⟨E,hrep,htr⟩
 have hg:g.i<L.n:=hg0.1.2
 have hb:=al1 h g.i (by omega)
 obtain ⟨b,h1,h2⟩:=ak5 (show R w _ E (.own 1 0) (a.tmps.getD 10 undef) from htr.2.2 10 (by omega))
 obtain ⟨b1,h3,h4⟩:=ak5 (show R w _ E (.own 4 0) (a.tmps.getD 8 undef) from htr.2.2 8 (by omega))
 have h7:=ap3 (show R w _ E (.con (ptrV (g.b (bld L g.i).top))) (a.tmps.getD 7 undef) from htr.2.2 7 (by omega))
 have h26:=ap3 (show R w _ E (.con (ptrV (g.b (bld L g.i).top))) (a.tmps.getD 26 undef) from htr.2.2 26 (by omega))
 obtain ⟨r1,r2⟩:=hrep.gadd (k:=1) (K:=4) rfl h1 rfl rfl h3 (fun j _=>newL_own L g.i j) rfl
 have ht:(bld L g.i).top<((fam L (bld L g.i) g.b g.c).add b1 (lst (newL L g.i))).n:=Nat.lt_succ_of_lt hb.top
 obtain ⟨E2,hv,mv,hle,e1,q1,q2⟩:=r1.gtake (k:=1) (i:=(bld L g.i).top) rfl h1 rfl ht
 have hbt:((fam L (bld L g.i) g.b g.c).add b1 (lst (newL L g.i))).b (bld L g.i).top=g.b (bld L g.i).top:=if_neg (Nat.ne_of_lt hb.top)
 have hmt:((fam L (bld L g.i) g.b g.c).add b1 (lst (newL L g.i))).m (bld L g.i).top=(bld L g.i).m (bld L g.i).top:=if_neg (Nat.ne_of_lt hb.top)
 rw [hbt] at e1
 rw [hmt] at q1 q2
 refine ⟨D2 L q,List.mem_singleton.2 rfl,⟨g,b1,hv,mv⟩,hg0,StR.mk3 htr q1 (fun b hb=>r2 b (q2 b hb)) hle ?_ ?_ ?_⟩
 ·rw [h4]; exact .con
 ·rw [h7]; exact .own e1
 ·rw [h26]; exact .pin e1
theorem fam_put2 {L:LsG}{B:Bld}{j t:Nat}(hb:BldOK B j) {b:Nat->Nat}{c:Nat->Option Nat}{c1:Option Nat}{b1:Nat}{hv mv:Nat->Value} :
  CusLe (gfQ TG TM ((((fam L B b c).add b1 (lst (newL L t))).take B.top hv mv).put B.top c1 (B.m B.top+1) (fun a=>memP (B.m B.top) mv (.ifc TPg (fun _=> .con (ptrV b1))) a)))
   (gfQ TG TM (fam L (B.bgn t) (fun i=>if i=B.n then b1 else b i) (fun i=>if i=B.top then c1 else if i=B.n then none else c i))):=by
 have htop:=hb.top
 refine GF.same rfl rfl rfl (fun _ _=>rfl) (fun _ _=>rfl) (fun i j hi hj=>?_) (fun i hi=>?_) (fun i a hi ha=>?_)
 ·show hdF L (B.bgn t) i j=(if i=B.n then lst (newL L t) else hdF L B i) j
  have hi:i<B.n+1:=hi
  by_cases hc:i=B.n
  ·rw [if_pos hc]
   have:=hb.n1
   simp only [hdF,Bld.bgn,if_pos hc,if_neg (show ¬ i=0 by omega)]
   exact (a38 (l:=grpL L t) (m:=[.cap0]) hj).symm
  ·rw [if_neg hc]
   simp only [hdF,Bld.bgn,if_neg hc]
 ·show (if i=B.n then 0 else if i=B.top then B.m i+1 else B.m i)=if i=B.top then B.m B.top+1 else if i=B.n then 0 else B.m i
  by_cases hc:i=B.top
  ·subst hc; rw [if_neg (Nat.ne_of_lt htop),if_pos rfl,if_pos rfl]
  ·rw [if_neg hc,if_neg hc]
 ·have ha:a<(if i=B.top then B.m B.top+1 else if i=B.n then 0 else B.m i):=ha
  have hi:i<B.n+1:=hi
  show pF L (B.bgn t) (fun i=>if i=B.n then b1 else b i) i a=(if i=B.top then (fun a=>if a<(if B.top=B.n then 0 else B.m B.top) then (if B.top=B.n then fun _=>SV.any else pF L B b B.top) a else memP (B.m B.top) mv (.ifc TPg (fun _=> .con (ptrV b1))) a) else if i=B.n then fun _=>SV.any else pF L B b i) a
  have old:∀ i a,i<B.n->a<B.m i->pF L (B.bgn t) (fun i=>if i=B.n then b1 else b i) i a=pF L B b i a:=fun i a hi ha=>by
   have hne:¬ (i=B.top/\a=B.m i):=fun hc=>by omega
   simp only [pF,Bld.bgn,Bld.push,if_neg hne]
   cases hk:B.kid i a with
   | none=>rfl
   | some k=>
    have:=(hb.kid i a k hi ha hk).2
    simp only [if_neg (Nat.ne_of_lt this)]
  by_cases hc:i=B.top
  ·subst hc
   rw [if_pos rfl] at ha ⊢
   rw [if_neg (Nat.ne_of_lt htop),if_neg (Nat.ne_of_lt htop)]
   by_cases ham:a<B.m B.top
   ·simp only [if_pos ham]
    exact old _ _ htop ham
   ·have:a=B.m B.top:=by omega
    subst this
    simp only [if_neg ham,memP,pF,Bld.bgn,Bld.push,and_self,if_true]
  ·rw [if_neg hc] at ha ⊢
   by_cases hn:i=B.n
   ·rw [if_pos hn] at ha; exact absurd ha (Nat.not_lt_zero _)
   ·rw [if_neg hn] at ha ⊢
    exact old i a (by omega) ha
theorem handE (L:LsG) (h:LsOK L) (q:Nat):ak6 82 0 (E1 L q) [E2 L q]:=by
 rintro ⟨g,b1,hv,mv⟩ ⟨hg0,hk⟩ w0 X0 a w _ ⟨E,hrep,htr⟩
 have hg:g.i<L.n:=hg0.2
 have hk:(L.it g.i).kind=1:=hk
 have hb:=al1 h g.i (by omega)
 obtain ⟨b,h1,h2⟩:=ak5 (show R w _ E (.own 1 0) (a.tmps.getD 10 undef) from htr.2.2 10 (by omega))
 have h26:=a00 (show R w _ E (.pin 5 (g.b (bld L g.i).top)) (a.tmps.getD 26 undef) from htr.2.2 26 (by omega))
 have h8:=ap3 (show R w _ E (.con (ptrV b1)) (a.tmps.getD 8 undef) from htr.2.2 8 (by omega))
 have hbt:(fam1 L ⟨g,b1,hv,mv⟩).b (bld L g.i).top=g.b (bld L g.i).top:=if_neg (Nat.ne_of_lt hb.top)
 have hmt:(fam1 L ⟨g,b1,hv,mv⟩).m (bld L g.i).top=(bld L g.i).m (bld L g.i).top:=if_neg (Nat.ne_of_lt hb.top)
 obtain ⟨c,r1,r2⟩:=hrep.gput (k:=1) (K1:=5) (K2:=6) (ver:=0) (h:=(bld L g.i).top) (F:=fam1 L ⟨g,b1,hv,mv⟩) rfl h1 rfl (Nat.lt_succ_of_lt hb.top) rfl (by rw [hbt]; exact h26) rfl rfl (fun j hj=>ba8 hv 6 j hj) (fun a ha=>by rw [hmt] at ha; exact if_pos ha)
 have hbld:bld L (g.i+1)=(bld L g.i).bgn g.i:=by simp only [bld,aF2,hk]; rfl
 obtain ⟨q1,q2⟩:=r1.gle (k:=1) rfl (fam_put2 (t:=g.i) hb)
 refine ⟨E2 L q,List.mem_singleton.2 rfl,⟨g.i,fun i=>if i=(bld L g.i).n then b1 else g.b i,fun i=>if i=(bld L g.i).top then c else if i=(bld L g.i).n then none else g.c i⟩,⟨hg0,hk⟩,?_⟩
 have:=StR.mk2 (s':= .any) (s2':= .con (ptrV b1)) htr q1 (fun b hb=>r2 b (q2 b hb)) (Env.le_refl _) .any (by rw [h8]; exact .con)
 show StR w0 X0 82 ⟨(26,.any)::(8,.con (ptrV (if (bld L g.i).n=(bld L g.i).n then b1 else g.b (bld L g.i).n)))::tau L g.i (fun i=>if i=(bld L g.i).n then b1 else g.b i),[.dead,famO (fam L (bld L (g.i+1)) (fun i=>if i=(bld L g.i).n then b1 else g.b i) (fun i=>if i=(bld L g.i).top then c else if i=(bld L g.i).n then none else g.c i)),au2 (bld L g.i) (fun i=>if i=(bld L g.i).n then b1 else g.b i),.dead,.dead,.dead,.dead]⟩ a w
 have e1:au2 (bld L g.i) (fun i=>if i=(bld L g.i).n then b1 else g.b i)=au2 (bld L g.i) g.b:=by
  simp only [au2,opn]
  congr 1
  funext j _
  by_cases hj:j<(bld L g.i).d
  ·rw [if_pos hj,if_pos hj,if_neg (Nat.ne_of_lt (hb.stk j hj))]
  ·rw [if_neg hj,if_neg hj]
 have e2:tau L g.i (fun i=>if i=(bld L g.i).n then b1 else g.b i)=tau L g.i g.b:=by
  simp only [tau]
  rw [if_neg (show ¬ 0=(bld L g.i).n by have:=hb.n1; omega)]
 rw [e1,e2,hbld,if_pos rfl]
 exact this
def G1 (L:LsG):Inv:=⟨TrG,fun _=>True,fun g=>⟨(3,.con (ptrV (g.b 0)))::[(10,.own 1 0)],[.dead,famO (fam L (bld L L.n) g.b g.c)]⟩,fun _=>0⟩
def G2 (L:LsG):Inv:=⟨Unit,fun _=>True,fun _=>⟨(3,grpS L (bld L L.n) (Nat.succ (bld L L.n).n) 0)::[(10,.own 1 0)],[.dead,.dead]⟩,fun _=>0⟩
theorem handG (L:LsG) (h:LsOK L):ak6 82 0 (G1 L) [G2 L]:=by
 rintro g _ w0 X0 a w _ ⟨E,hrep,htr⟩
 have hb:=al1 h L.n (Nat.le_refl _)
 obtain ⟨b,h1,h2⟩:=ak5 (show R w _ E (.own 1 0) (a.tmps.getD 10 undef) from htr.2.2 10 (by omega))
 have h3:=ap3 (show R w _ E (.con (ptrV (g.b 0))) (a.tmps.getD 3 undef) from htr.2.2 3 (by omega))
 obtain ⟨⟨r1,r2⟩,r3,r4⟩:=hrep.ggive (k:=1) rfl h1 rfl
 have key:=gC_R (TP:=TPg) (TF:=TPf) (lf:=lfC L (bld L L.n)) (kid:=(bld L L.n).kid) r3 rfl r4 (fun i a k hi ha hk=>⟨(hb.kid i a k hi ha hk).2,by show pF L (bld L L.n) g.b i a=_; simp only [pF,hk]; rfl⟩) (fun i a hi ha hk=>by show pF L (bld L L.n) g.b i a=_; simp only [pF,hk]; rfl) (Nat.succ (bld L L.n).n) 0 hb.n1
 refine ⟨G2 L,List.mem_singleton.2 rfl,(),trivial,StR.mk1 htr r1 r2 (Env.le_refl _) ?_⟩
 rw [h3]
 exact key.mono (fun _ _ _=>rfl) (fun _ _ h=>h) (Env.aU6 _)
theorem bb0 (x:Src):ae7 (srcF x):=by
 intro i
 refine ac5 (fun s hs=>?_) i
 cases List.mem_singleton.1 hs
 intro j
 show ae7 (srcG x j)
 unfold srcG
 split
 ·refine ac5 (fun s hs=>?_) j
  cases List.mem_singleton.1 hs
  intro i
  refine ac5 (fun s hs=>?_) i
  cases List.mem_singleton.1 hs
  intro i
  refine ac5 (fun s hs=>?_) i
  rcases List.mem_append.1 hs with hs | hs
  ·exact imgL_own _ s hs
  ·simp only [matL,List.mem_cons,List.not_mem_nil,or_false] at hs
   rcases hs with rfl | rfl | rfl | rfl | rfl | rfl<;>trivial
 ·exact ac5 (aQ0 x) j
theorem a42 (L:LsG) (B:Bld) (g a j:Nat):ae7 (lfC L B g a j):=by
 refine ac5 (fun s hs=>?_) j
 simp only [fillL,List.mem_append,List.mem_cons,List.not_mem_nil,or_false] at hs
 rcases hs with hs | rfl | rfl | rfl
 ·exact as6 _ s hs
 ·trivial
 ·exact bb0 _
 ·exact ax2 _
theorem hdF_own (L:LsG) (B:Bld) (g j:Nat):ae7 (hdF L B g j):=by
 unfold hdF
 refine ac5 (fun s hs=>?_) j
 split at hs
 ·simp only [pageL,List.mem_append,List.mem_cons,List.not_mem_nil,or_false] at hs
  rcases hs with hs | rfl | rfl
  ·exact as6 _ s hs
  all_goals trivial
 ·simp only [grpL,List.mem_append,List.mem_cons,List.not_mem_nil,or_false] at hs
  rcases hs with hs | rfl | rfl
  ·exact as6 _ s hs
  ·trivial
  ·exact ax2 _
theorem grpC_own (L:LsG) (B:Bld):∀ f g j,ae7 (grpC L B f g j)
 | 0,_,_=>trivial
 | f+1,g,j=>by
  show ae7 (bif Nat.beq j 36 then SV.sl (B.m g) 1 (fun a _=> .ifc ((B.kid g a).elim TPf fun _=>TPg) (fun _=> .ref 37 ((B.kid g a).elim (lfC L B g a) (grpC L B f)))) else hdF L B g j)
  cases Nat.beq j 36 with
  | false=>exact hdF_own L B g j
  | true=>
   intro a _ _ j
   show ae7 ((B.kid g a).elim (lfC L B g a) (grpC L B f) j)
   cases B.kid g a with
   | none=>exact a42 L B g a j
   | some k=>exact grpC_own L B f k j
theorem mem_own (L:LsG) (B:Bld) (f g a j:Nat):ae7 ((B.kid g a).elim (lfC L B g a) (grpC L B f) j):=by
 cases B.kid g a with
 | none=>exact a42 L B g a j
 | some k=>exact grpC_own L B f k j
theorem allN_refl {f:Nat->SV}(h:∀ j,ae7 (f j)) (n:Nat):allN n fun j=>SVle [] [] (f j) (f j):=aq8 (fun j=>SVle.refl [] [] (h j)) n
theorem le_mem {m i:Nat}{mv:Nat->Value}{x y:SV}(h:SVle [] [] x y):SVle [] [] (bif decide (i<m) then .con (mv i) else x) (memP m mv y i):=by
 unfold memP
 by_cases hc:i<m
 ·rw [decide_eq_true hc,if_pos hc]; exact ⟨rfl⟩
 ·rw [decide_eq_false hc,if_neg hc]; exact h
theorem le_opn {B B':Bld}{b:Nat->Nat}{t i:Nat}(h:B'=B.bgn t) (hi:i<B'.d):SVle [] [] (bif decide (i<B.d) then .con (ptrV (opn B b i)) else .con (ptrV (b B.n))) (.con (ptrV (opn B' b i))):=by
 subst h
 have hi:i<B.d+1:=hi
 have e:opn (B.bgn t) b i=b (if i=B.d then B.n else B.stk i):=if_pos hi
 rw [e]
 by_cases hc:i<B.d
 ·rw [decide_eq_true hc,if_neg (by omega)]
  refine ⟨?_⟩
  simp only [opn,if_pos hc]
 ·rw [decide_eq_false hc,if_pos (by omega)]
  exact ⟨rfl⟩
theorem le_ifc_ref {T:TypeId}{n:Nat}{f f':Nat->SV}(h:allN n fun j=>f j=f' j) (ho:∀ j,ae7 (f' j)):SVle [] [] (.ifc T fun _=> .ref n f) (.ifc T fun _=> .ref n f'):=by
 refine ⟨⟨rfl⟩,?_⟩
 simp only [SVle,if_true,Nat.le_refl]
 have hh:=ae9 h
 clear h
 suffices ∀ k,k<=n->allN k (fun i=>SVle [] [] (f i) (f' i)) from this n (Nat.le_refl _)
 intro k hk
 induction k with
 | zero=>trivial
 | succ k ih=>exact ⟨ih (by omega),by show SVle [] [] (f k) (f' k); rw [hh k (by omega)]; exact SVle.refl [] [] (ho k)⟩
def aV5:FSpec:={ bb3 with box:=some 134 }
theorem ok_sourceB:aa2 Tryz.prog aV5:=ok_source
def spTree:FSpec:=aa5 39 (γ:=LsG) (fun | [.agg _ g]=>some (lsD g) | _=>none) (fun g=>[lsS g]) LsOK (fun g=>grpS g (bld g g.n) (Nat.succ (bld g g.n).n) 0)
theorem ok_tree:aa2 Tryz.prog spTree:=by
 refine aa1 (specs:=[aV5,spInks]) (aa9 (⟨ok_sourceB,ok_inks,trivial⟩)) (eqs:=[]) (fun _ _ h=>(List.not_mem_nil h).elim) Aff.mixed Tryz.func39 rfl (by kernel_rfl) (fun _ _=>by kernel_rfl) (fun g=>(⟨[(4,.nest (lpI g) (fun t=>[(5000010,.hand (B1 g t.i) [B2 g t.i]),(6000010,.hand (C1 g t.i) [C2 g t.i]),(5000013,.hand (D1 g t.i) [D2 g t.i]),(6000013,.hand (E1 g t.i) [E2 g t.i])])),(5000002,.hand (A1 g) [A2 g]),(5000016,.hand (G1 g) [G2 g])],[(1000008,[.shrink 4])]⟩:Ann)) (fun g=>Nat.le_of_ble_eq_true (by kernel_rfl)) ?_
 rintro g hg
 refine ab5 (B:=let T3:=fun p:Prop=>True/\True/\True/\p;let V:=fun p:Sx.SV=>Sx.SVle [] [] p p;let J:=Int.ofNat;let K:=IntKind.i64;let A:=Sx.Ask;let z38:=(nat_lit 0);let z37:=(35:Nat);let z36:=(140737488355328:Nat);let z34:=(nat_lit 82);let z33:=(34:Nat);let z32:=(16:Nat);let z29:=(9223372036854775807:Nat);let z28:=(bld g g.n);let z23:=(9223372036854775807:Int);let z22:=(-9223372036854775808:Int);let z20:=(false=false);let z15:=(1:Int);let z12:=(1:Nat);let z9:=(0:Int);let z7:=(0:Nat);let z17:=(z7=z7);let z6:=(A (g.n=g.n)/\∀ i:Nat,i<g.n->(Lsg.qT True (g.it i) (g.it i)));let z5:=(IntKind.u8=IntKind.u8);let z4:=(z9=z9);let z3:=(K=K);let q3:=fun p:Int=>A z3/\A (p=p);let z27:=(True/\A z3/\A z4);let z8:=(q3 ((↑g.n:Int)));let z0:=(Sx.gC TPg TPf (hdF g z28) z28.m (lfC g z28) z28.kid z28.n);T3 (True/\True/\Sx.ak6 z34 z38 (A1 g) [A2 g]/\(∃ g_1:Unit,A ((A1 g).pre g_1)/\(A z17/\A z17/\A z17/\True)/\((((True/\q3 g.w)/\q3 g.h)/\A (g.ni=g.ni)/\∀ i:Nat,i<g.ni->True/\A (g.nm i=g.nm i))/\A (g.n=g.n)/\∀ i:Nat,i<g.n->(Lsg.qT True (g.it i) (g.it i)))/\((((((((((((((((((((((((((((((((((((z27/\A z17)/\A z3/\A z4)/\A z5/\A z4)/\A z5/\A z4)/\A z5/\A z4)/\A z5/\A z4)/\A z5/\A z4)/\A z5/\A z4)/\A z5/\A z4)/\A z5/\A z4)/\A z3/\A z4)/\A z3/\A z4)/\A z3/\A z4)/\A z3/\A z4)/\A z3/\A z4)/\A z17)/\A z3/\A z4)/\A z3/\A z4)/\A z17)/\A z17)/\A z3/\A z4)/\A z3/\A z4)/\A z3/\A z4)/\A z3/\A z4)/\A z3/\A z4)/\A z3/\A z4)/\A z20)/\A z20)/\A z5/\A z4)/\A z3/\A z4)/\A z20)/\A z20)/\A z20)/\q3 ((-1:Int)))/\True)/\True)/\True)/\(∀ h:Nat,(A2 g).pre h->T3 (T3 (True/\(∃ g_1:TrG,A ((lpI g).pre g_1)/\(z6/\z8/\(A z3/\A (z9=(↑g_1.i:Int)))/\A z17/\A (ptrV h=ptrV (g_1.b z7))/\True/\True)/\True/\Sx.CusLe (Sx.gfQ TG TM (fam g (bld g z7) (fun (x:Nat)=>h) fun (x:Nat)=>Option.none)) (Sx.gfQ TG TM (fam g (bld g g_1.i) g_1.b g_1.c))/\(A (z12=(bld g g_1.i).d)/\∀ i:Nat,i<(bld g g_1.i).d->True/\A (ptrV h=ptrV (opn (bld g g_1.i) g_1.b i)))/\True)/\∀ g_1:TrG,let z19:=(↑g_1.i:Int);let z13:=(bld g g_1.i);let z18:=(Sx.gfQ TG TM (fam g z13 g_1.b g_1.c));let z11:=(g.it z19.toNat);let z10:=(↑z13.d:Int);let z25:=(opn z13 g_1.b (z10-z15).toNat); (lpI g).pre g_1->True/\Sx.Br (decide (z19<(↑g.n:Int))) (True/\A (z9<=z19/\z19<(↑g.n:Int))/\T3 (T3 (True/\A (z22<=z10-z15/\z10-z15<=z23)/\A (z9<=z10-z15/\z10-z15<z10)/\A ((z10-z15).toNat<z13.d)/\T3 (True/\True/\Sx.Br (decide (z11.kind=z9)) (Sx.ak6 z34 z38 (B1 g g_1.i) [B2 g g_1.i]/\(∃ g_2:TrG,let z35:=(A z3/\A (z19=(↑g_2.i:Int)));let z30:=(bld g g_2.i); A ((B1 g g_1.i).pre g_2)/\(A (ptrV z25=ptrV (g_2.b z30.top))/\A (ptrV z25=ptrV (g_2.b z30.top))/\z35/\A z17/\z6/\z8/\z35/\A z17/\A (ptrV (g_1.b z7)=ptrV (g_2.b z7))/\True/\True)/\True/\Sx.CusLe z18 (Sx.gfQ TG TM (fam g z30 g_2.b g_2.c))/\(A (z13.d=z30.d)/\∀ i:Nat,i<z30.d->True/\A (ptrV (opn z13 g_1.b i)=ptrV (opn z30 g_2.b i)))/\(Lsg.qT True z11 (g.it g_2.i))/\True)/\(∀ h:TkG,let z26:=(g.it h.t.i);let z16:=(bld g h.t.i); (B2 g g_1.i).pre h->T3 (T3 (T3 ((((Lsg.qS True (z26.src) (z26.src))/\True)/\A True)/\True/\True/\(((q3 z26.blend)/\True)/\A (z9<=z26.blend/\z26.blend<=(11:Int)))/\T3 (True/\A (z16.m z16.top+z12<=z29/\(z16.m z16.top+z12)*z32<=z36)/\T3 (Sx.ak6 z34 z38 (C1 g g_1.i) [C2 g g_1.i]/\(∃ g_2:TkG,let z14:=(bld g g_2.t.i); A ((C1 g g_1.i).pre g_2)/\(A (h.t.b z16.top=g_2.t.b z14.top)/\z6/\z8/\(A z3/\A ((↑h.t.i:Int)=(↑g_2.t.i:Int)))/\A z17/\A (ptrV (h.t.b z7)=ptrV (g_2.t.b z7))/\True/\True)/\True/\Sx.CusLe (Sx.gfQ TG TM ((fam g z16 h.t.b h.t.c).take z16.top h.hv h.mv)) (Sx.gfQ TG TM ((fam g z14 g_2.t.b g_2.t.c).take z14.top g_2.hv g_2.mv))/\(A (z16.d=z14.d)/\∀ i:Nat,i<z14.d->True/\A (ptrV (opn z16 h.t.b i)=ptrV (opn z14 g_2.t.b i)))/\True/\(((((((((((((((((((((((((((((((((((((True/\A (h.hv z7=g_2.hv z7))/\A (h.hv z12=g_2.hv z12))/\A (h.hv (2:Nat)=g_2.hv (2:Nat)))/\A (h.hv (3:Nat)=g_2.hv (3:Nat)))/\A (h.hv (4:Nat)=g_2.hv (4:Nat)))/\A (h.hv (5:Nat)=g_2.hv (5:Nat)))/\A (h.hv (6:Nat)=g_2.hv (6:Nat)))/\A (h.hv (7:Nat)=g_2.hv (7:Nat)))/\A (h.hv (8:Nat)=g_2.hv (8:Nat)))/\A (h.hv (9:Nat)=g_2.hv (9:Nat)))/\A (h.hv (10:Nat)=g_2.hv (10:Nat)))/\A (h.hv (11:Nat)=g_2.hv (11:Nat)))/\A (h.hv (12:Nat)=g_2.hv (12:Nat)))/\A (h.hv (13:Nat)=g_2.hv (13:Nat)))/\A (h.hv (14:Nat)=g_2.hv (14:Nat)))/\A (h.hv (15:Nat)=g_2.hv (15:Nat)))/\A (h.hv z32=g_2.hv z32))/\A (h.hv (17:Nat)=g_2.hv (17:Nat)))/\A (h.hv (18:Nat)=g_2.hv (18:Nat)))/\A (h.hv (19:Nat)=g_2.hv (19:Nat)))/\A (h.hv (20:Nat)=g_2.hv (20:Nat)))/\A (h.hv (21:Nat)=g_2.hv (21:Nat)))/\A (h.hv (22:Nat)=g_2.hv (22:Nat)))/\A (h.hv (23:Nat)=g_2.hv (23:Nat)))/\A (h.hv (24:Nat)=g_2.hv (24:Nat)))/\A (h.hv (25:Nat)=g_2.hv (25:Nat)))/\A (h.hv (26:Nat)=g_2.hv (26:Nat)))/\A (h.hv (27:Nat)=g_2.hv (27:Nat)))/\A (h.hv (28:Nat)=g_2.hv (28:Nat)))/\A (h.hv (29:Nat)=g_2.hv (29:Nat)))/\A (h.hv (30:Nat)=g_2.hv (30:Nat)))/\A (h.hv (31:Nat)=g_2.hv (31:Nat)))/\A (h.hv (32:Nat)=g_2.hv (32:Nat)))/\A (h.hv (33:Nat)=g_2.hv (33:Nat)))/\A (h.hv z33=g_2.hv z33))/\A (h.hv z37=g_2.hv z37))/\True)/\(A (z16.m z16.top+z12=z14.m z14.top+z12)/\∀ i:Nat,i<z14.m z14.top+z12->True/\Sx.SVle [] [] (bif decide (i<z16.m z16.top) then Sx.SV.con (h.mv i) else Sx.SV.ifc (129:Nat) fun (x:Nat)=>Sx.SV.ref [Go.Value.int K z9,Go.Value.slice Option.none z7 z7,Go.Value.int K z9,Go.Value.int IntKind.u8 z9,Go.Value.int IntKind.u8 z9,Go.Value.int IntKind.u8 z9,Go.Value.int IntKind.u8 z9,Go.Value.int IntKind.u8 z9,Go.Value.int IntKind.u8 z9,Go.Value.int IntKind.u8 z9,Go.Value.int IntKind.u8 z9,Go.Value.int K z9,Go.Value.int K z9,Go.Value.int K z9,Go.Value.int K z9,Go.Value.int K z9,Go.Value.slice Option.none z7 z7,Go.Value.int K z9,Go.Value.int K z9,Go.Value.slice Option.none z7 z7,Go.Value.slice Option.none z7 z7,Go.Value.int K z9,Go.Value.int K z9,Go.Value.int K z9,Go.Value.int K z9,Go.Value.int K z9,Go.Value.int K z9,Go.Value.bool false,Go.Value.bool false,Go.Value.int IntKind.u8 z9,Go.Value.int K z9,Go.Value.bool false,Go.Value.bool false,Go.Value.bool false,Go.Value.int K z9,Go.Value.nilFunc,Go.Value.nilFunc].length (Sx.updF (Sx.updF (Sx.updF (Sx.updF (Sx.ak0 [Go.Value.int K z9,Go.Value.slice Option.none z7 z7,Go.Value.int K z9,Go.Value.int IntKind.u8 z9,Go.Value.int IntKind.u8 z9,Go.Value.int IntKind.u8 z9,Go.Value.int IntKind.u8 z9,Go.Value.int IntKind.u8 z9,Go.Value.int IntKind.u8 z9,Go.Value.int IntKind.u8 z9,Go.Value.int IntKind.u8 z9,Go.Value.int K z9,Go.Value.int K z9,Go.Value.int K z9,Go.Value.int K z9,Go.Value.int K z9,Go.Value.slice Option.none z7 z7,Go.Value.int K z9,Go.Value.int K z9,Go.Value.slice Option.none z7 z7,Go.Value.slice Option.none z7 z7,Go.Value.int K z9,Go.Value.int K z9,Go.Value.int K z9,Go.Value.int K z9,Go.Value.int K z9,Go.Value.int K z9,Go.Value.bool false,Go.Value.bool false,Go.Value.int IntKind.u8 z9,Go.Value.int K z9,Go.Value.bool false,Go.Value.bool false,Go.Value.bool false,Go.Value.int K z9,Go.Value.nilFunc,Go.Value.nilFunc]) z7 z33 fun (j:Nat)=>Sx.lst (Lsg.itL z26) (z7+j)) z33 z12 fun (x:Nat)=>Sx.SV.int K (↑h.t.i:Int)) z37 z12 fun (x:Nat)=>Sx.SV.fn (Lsg.srcN z26.src.kind) z12 (Sx.lst [Sx.SV.ref (Lsg.srcW z26.src.kind) (Lsg.srcG z26.src)])) (36:Nat) z12 fun (x:Nat)=>Sx.SV.fn (86:Go.FuncId) z12 (Sx.lst [Sx.SV.ref z12 (Sx.lst [Ble.mode1S (Blend.aa6 z26.blend.toNat)])]))) (memP (z14.m z14.top) g_2.mv (Sx.SV.ifc TPf fun (x:Nat)=>av7 g g_2.t.i) i))/\True)/\(∀ h:TrG,(C2 g g_1.i).pre h->A (z22<=(↑h.i:Int)+z15/\(↑h.i:Int)+z15<=z23)/\True/\∃ (g':TrG),A ((lpI g).pre g')/\((z6/\z8/\(A z3/\A ((↑h.i:Int)+z15=(↑g'.i:Int)))/\A z17/\A (ptrV (h.b z7)=ptrV (g'.b z7))/\True/\True)/\True/\Sx.CusLe (Sx.gfQ TG TM (fam g (bld g (h.i+z12)) h.b h.c)) (Sx.gfQ TG TM (fam g (bld g g'.i) g'.b g'.c))/\(A ((bld g (h.i+z12)).d=(bld g g'.i).d)/\∀ i:Nat,i<(bld g g'.i).d->True/\A (ptrV (opn (bld g (h.i+z12)) h.b i)=ptrV (opn (bld g g'.i) g'.b i)))/\True)/\A ((lpI g).meas g'<(lpI g).meas g_1))/\True))))))/\True) (True/\True/\Sx.Br (decide (z11.kind=z15)) (T3 (True/\(((q3 z11.blend)/\True)/\A (z9<=z11.blend/\z11.blend<=(11:Int)))/\T3 (Sx.ak6 z34 z38 (D1 g g_1.i) [D2 g g_1.i]/\(∃ g_2:TrG,let z31:=(bld g g_2.i); A ((D1 g g_1.i).pre g_2)/\(A z17/\A (ptrV z25=ptrV (g_2.b z31.top))/\A (ptrV z25=ptrV (g_2.b z31.top))/\z6/\z8/\(A z3/\A (z19=(↑g_2.i:Int)))/\A z17/\A (ptrV (g_1.b z7)=ptrV (g_2.b z7))/\True/\True)/\True/\Sx.CusLe z18 (Sx.gfQ TG TM (fam g z31 g_2.b g_2.c))/\(A (z13.d=z31.d)/\∀ i:Nat,i<z31.d->True/\A (ptrV (opn z13 g_1.b i)=ptrV (opn z31 g_2.b i)))/\True/\((((Lsg.qT True z11 (g.it g_2.i))/\A z3/\A (z19=(↑g_2.i:Int)))/\A ((86:Go.FuncId)=(86:Go.FuncId))/\True/\True/\A ((112:Go.FuncId)=(112:Go.FuncId))/\True/\True/\A (Blend.aa6 z11.blend.toNat=Blend.aa6 (g.it g_2.i).blend.toNat)/\True)/\True)/\True)/\(∀ h:AdG,let z24:=(bld g h.t.i); (D2 g g_1.i).pre h->T3 (T3 (True/\True/\A (z24.m z24.top+z12<=z29/\(z24.m z24.top+z12)*z32<=z36)/\T3 (Sx.ak6 z34 z38 (E1 g g_1.i) [E2 g g_1.i]/\(∃ g_2:AdG,let z21:=(bld g g_2.t.i); A ((E1 g g_1.i).pre g_2)/\(A (h.t.b z24.top=g_2.t.b z21.top)/\A (ptrV h.b1=ptrV g_2.b1)/\z6/\z8/\(A z3/\A ((↑h.t.i:Int)=(↑g_2.t.i:Int)))/\A z17/\A (ptrV (h.t.b z7)=ptrV (g_2.t.b z7))/\True/\True)/\True/\Sx.CusLe (Sx.gfQ TG TM (fam1 g h)) (Sx.gfQ TG TM (fam1 g g_2))/\(A (z24.d=z21.d)/\∀ i:Nat,i<z21.d->True/\A (ptrV (opn z24 h.t.b i)=ptrV (opn z21 g_2.t.b i)))/\True/\True/\(((((((((((((((((((((((((((((((((((((True/\A (h.hv z7=g_2.hv z7))/\A (h.hv z12=g_2.hv z12))/\A (h.hv (2:Nat)=g_2.hv (2:Nat)))/\A (h.hv (3:Nat)=g_2.hv (3:Nat)))/\A (h.hv (4:Nat)=g_2.hv (4:Nat)))/\A (h.hv (5:Nat)=g_2.hv (5:Nat)))/\A (h.hv (6:Nat)=g_2.hv (6:Nat)))/\A (h.hv (7:Nat)=g_2.hv (7:Nat)))/\A (h.hv (8:Nat)=g_2.hv (8:Nat)))/\A (h.hv (9:Nat)=g_2.hv (9:Nat)))/\A (h.hv (10:Nat)=g_2.hv (10:Nat)))/\A (h.hv (11:Nat)=g_2.hv (11:Nat)))/\A (h.hv (12:Nat)=g_2.hv (12:Nat)))/\A (h.hv (13:Nat)=g_2.hv (13:Nat)))/\A (h.hv (14:Nat)=g_2.hv (14:Nat)))/\A (h.hv (15:Nat)=g_2.hv (15:Nat)))/\A (h.hv z32=g_2.hv z32))/\A (h.hv (17:Nat)=g_2.hv (17:Nat)))/\A (h.hv (18:Nat)=g_2.hv (18:Nat)))/\A (h.hv (19:Nat)=g_2.hv (19:Nat)))/\A (h.hv (20:Nat)=g_2.hv (20:Nat)))/\A (h.hv (21:Nat)=g_2.hv (21:Nat)))/\A (h.hv (22:Nat)=g_2.hv (22:Nat)))/\A (h.hv (23:Nat)=g_2.hv (23:Nat)))/\A (h.hv (24:Nat)=g_2.hv (24:Nat)))/\A (h.hv (25:Nat)=g_2.hv (25:Nat)))/\A (h.hv (26:Nat)=g_2.hv (26:Nat)))/\A (h.hv (27:Nat)=g_2.hv (27:Nat)))/\A (h.hv (28:Nat)=g_2.hv (28:Nat)))/\A (h.hv (29:Nat)=g_2.hv (29:Nat)))/\A (h.hv (30:Nat)=g_2.hv (30:Nat)))/\A (h.hv (31:Nat)=g_2.hv (31:Nat)))/\A (h.hv (32:Nat)=g_2.hv (32:Nat)))/\A (h.hv (33:Nat)=g_2.hv (33:Nat)))/\A (h.hv z33=g_2.hv z33))/\A (h.hv z37=g_2.hv z37))/\True)/\(A (z24.m z24.top+z12=z21.m z21.top+z12)/\∀ i:Nat,i<z21.m z21.top+z12->True/\Sx.SVle [] [] (bif decide (i<z24.m z24.top) then Sx.SV.con (h.mv i) else Sx.SV.ifc (73:Nat) fun (x:Nat)=>Sx.SV.con (ptrV h.b1)) (memP (z21.m z21.top) g_2.mv (Sx.SV.ifc TPg fun (x:Nat)=>Sx.SV.con (ptrV g_2.b1)) i))/\True)/\(∀ h:TrG,let z39:=(bld g h.i); (E2 g g_1.i).pre h->T3 (A (z39.d+z12<=z29/\(z39.d+z12)*(8:Nat)<=z36)/\True/\A (z22<=(↑h.i:Int)+z15/\(↑h.i:Int)+z15<=z23)/\True/\∃ (g':TrG),A ((lpI g).pre g')/\((z6/\z8/\(A z3/\A ((↑h.i:Int)+z15=(↑g'.i:Int)))/\A z17/\A (ptrV (h.b z7)=ptrV (g'.b z7))/\True/\True)/\True/\Sx.CusLe (Sx.gfQ TG TM (fam g (bld g (h.i+z12)) h.b h.c)) (Sx.gfQ TG TM (fam g (bld g g'.i) g'.b g'.c))/\(A (z39.d+z12=(bld g g'.i).d)/\∀ i:Nat,i<(bld g g'.i).d->True/\Sx.SVle [] [] (bif decide (i<z39.d) then Sx.SV.con (ptrV (opn z39 h.b i)) else Sx.SV.con (ptrV (h.b z39.n))) (Sx.SV.con (ptrV (opn (bld g g'.i) g'.b i))))/\True)/\A ((lpI g).meas g'<(lpI g).meas g_1)))/\True))))/\True))) (T3 (A (z22<=z10-z15/\z10-z15<=z23)/\A (z9<=J z7/\J z7<=z10-z15/\z10-z15<=J z13.d/\J z13.d<=z10)/\True/\A (z22<=z19+z15/\z19+z15<=z23)/\True/\∃ (g':TrG),A ((lpI g).pre g')/\((z6/\z8/\(A z3/\A (z19+z15=(↑g'.i:Int)))/\A z17/\A (ptrV (g_1.b z7)=ptrV (g'.b z7))/\True/\True)/\True/\Sx.CusLe z18 (Sx.gfQ TG TM (fam g (bld g g'.i) g'.b g'.c))/\(A ((z10-z15-J z7).toNat=(bld g g'.i).d)/\∀ i:Nat,i<(bld g g'.i).d->True/\A (ptrV (opn z13 g_1.b i)=ptrV (opn (bld g g'.i) g'.b i)))/\True)/\A ((lpI g).meas g'<(lpI g).meas g_1)))))))) (Sx.ak6 z34 z38 (G1 g) [G2 g]/\(∃ g_2:TrG,A ((G1 g).pre g_2)/\(A (ptrV (g_1.b z7)=ptrV (g_2.b z7))/\A z17/\True)/\True/\Sx.CusLe z18 (Sx.gfQ TG TM (fam g z28 g_2.b g_2.c))/\True)/\(∀ h:Unit,(G2 g).pre h->T3 ((((((((((((((((((((((((((((((((((((z27/\A z17/\∀ i:Nat,i<z7->((z27/\A z3/\A z4)/\A z3/\A z4))/\A z3/\A z4)/\A z5/\A z4)/\A z5/\A z4)/\A z5/\A z4)/\A z5/\A z4)/\A z5/\A z4)/\A z5/\A z4)/\A z5/\A z4)/\A z5/\A z4)/\A z3/\A z4)/\A z3/\A z4)/\A z3/\A z4)/\A z3/\A z4)/\A z3/\A z4)/\A z17/\∀ i:Nat,i<z7->((((((((z27/\A z5/\A z4)/\A z5/\A z4)/\A z5/\A z4)/\A z5/\A z4)/\A z5/\A z4)/\A z5/\A z4)/\A z5/\A z4)/\A z5/\A z4))/\A z3/\A z4)/\A z3/\A z4)/\A z17/\∀ i:Nat,i<z7->((((((((True/\A z5/\A z4)/\A z5/\A z4)/\A z5/\A z4)/\A z5/\A z4)/\A z5/\A z4)/\A z5/\A z4)/\A z5/\A z4)/\A z5/\A z4))/\A z17/\∀ i:Nat,i<z7->True/\A z5/\A z4)/\A z3/\A z4)/\A z3/\A z4)/\A z3/\A z4)/\A z3/\A z4)/\A z3/\A z4)/\A z3/\A z4)/\A z20)/\A z20)/\A z5/\A z4)/\A z3/\A z4)/\A z20)/\A z20)/\A z20)/\q3 ((-1:Int)))/\True)/\A (z28.m z7=z28.m z7)/\∀ i:Nat,let z2:=(z28.kid z7 i);let z1:=(lfC g z28 z7 i); i<z28.m z7->True/\A ((z2.elim TPf fun (x:Nat)=>TPg)=z2.elim TPf fun (x:Nat)=>TPg)/\((((((((((((((((((((((((((((((((((((True/\V (z2.elim z1 z0 z7))/\V (z2.elim z1 z0 z12))/\V (z2.elim z1 z0 (2:Nat)))/\V (z2.elim z1 z0 (3:Nat)))/\V (z2.elim z1 z0 (4:Nat)))/\V (z2.elim z1 z0 (5:Nat)))/\V (z2.elim z1 z0 (6:Nat)))/\V (z2.elim z1 z0 (7:Nat)))/\V (z2.elim z1 z0 (8:Nat)))/\V (z2.elim z1 z0 (9:Nat)))/\V (z2.elim z1 z0 (10:Nat)))/\V (z2.elim z1 z0 (11:Nat)))/\V (z2.elim z1 z0 (12:Nat)))/\V (z2.elim z1 z0 (13:Nat)))/\V (z2.elim z1 z0 (14:Nat)))/\V (z2.elim z1 z0 (15:Nat)))/\V (z2.elim z1 z0 z32))/\V (z2.elim z1 z0 (17:Nat)))/\V (z2.elim z1 z0 (18:Nat)))/\V (z2.elim z1 z0 (19:Nat)))/\V (z2.elim z1 z0 (20:Nat)))/\V (z2.elim z1 z0 (21:Nat)))/\V (z2.elim z1 z0 (22:Nat)))/\V (z2.elim z1 z0 (23:Nat)))/\V (z2.elim z1 z0 (24:Nat)))/\V (z2.elim z1 z0 (25:Nat)))/\V (z2.elim z1 z0 (26:Nat)))/\V (z2.elim z1 z0 (27:Nat)))/\V (z2.elim z1 z0 (28:Nat)))/\V (z2.elim z1 z0 (29:Nat)))/\V (z2.elim z1 z0 (30:Nat)))/\V (z2.elim z1 z0 (31:Nat)))/\V (z2.elim z1 z0 (32:Nat)))/\V (z2.elim z1 z0 (33:Nat)))/\V (z2.elim z1 z0 z33))/\V (z2.elim z1 z0 z37))/\V (z2.elim z1 z0 (36:Nat))))/\True))))/\True)) (by kernel_rfl) ?_
 delta Lsg.qG Lsg.qI Lsg.qM Lsg.qS Lsg.qT
 simp only [aa4,aa8,eq_self,true_and,and_true,implies_true,forall_const,decide_eq_true_eq,decide_eq_false_iff_not,ne_eq,Nat.mul_one,Nat.add_zero,Nat.zero_add]
 simp only [Int.toNat_natCast]
 refine ⟨handA g,⟨(),trivial⟩,fun b0 _=>⟨⟨⟨0,fun _=>b0,fun _=>none⟩,Nat.zero_le _,⟨rfl,rfl⟩,CusLe.refl _,rfl,fun i hi=>?_⟩,fun t ht=>⟨fun hlt=>?_,fun hge=>?_⟩⟩⟩
 ·have h1:i<(bld g 0).d:=hi
  simp only [opn,if_pos h1]
 ·have hn:=hg.n
  have ht:t.i<=g.n:=ht
  have hb:=al1 hg t.i ht
  have hd1:=hb.d1
  have hd2:=hb.d2
  have htop:opn (bld g t.i) t.b ((((bld g t.i).d:Nat):Int)-1).toNat=t.b (bld g t.i).top:=by
   have e:((((bld g t.i).d:Nat):Int)-1).toNat=(bld g t.i).d-1:=by omega
   rw [e]
   exact if_pos (by omega)
  refine ⟨by omega,by omega,by omega,by omega,fun hk=>?_,fun hk=>⟨fun hk1=>?_,fun hk2=>?_⟩⟩
  ·refine ⟨handB g hg t.i,⟨t,⟨⟨rfl,by omega⟩,hk⟩,⟨by rw [htop],by rw [htop],rfl,rfl,rfl⟩,CusLe.refl _,⟨rfl,fun _ _=>rfl⟩,by simp only [and_self,implies_true]⟩,fun q hq=>?_⟩
   obtain ⟨⟨hqi,hqn⟩,hqk⟩:(q.t.i=t.i/\q.t.i<g.n)/\(g.it q.t.i).kind=0:=hq
   have hbq:=al1 hg q.t.i (by omega)
   have hm:=hbq.m _ hbq.top
   refine ⟨hg.blend _ hqn,⟨by omega,by omega⟩,handC g hg t.i,⟨q,⟨⟨hqi,hqn⟩,hqk⟩,⟨rfl,rfl,rfl⟩,CusLe.refl _,⟨rfl,fun _ _=>rfl⟩,by simp only [and_self],rfl,fun i hi=>le_mem ?_⟩,fun r hr=>?_⟩
   ·refine le_ifc_ref (n:=37) (f':=lst (fillL g q.t.i)) ?_ (fun j=>a42 g ⟨0,0,fun _=>0,fun _=>0,fun _ _=>none,fun _ _=>q.t.i,fun _=>0⟩ 0 0 j)
    simp only [allN]
    repeat' (first | exact rfl | apply And.intro | trivial)
   ·obtain ⟨⟨hri,hrn⟩,hrk⟩:(r.i=t.i/\r.i<g.n)/\(g.it r.i).kind=0:=hr
    exact ⟨by omega,⟨r.i+1,r.b,r.c⟩,(show r.i+1<=g.n by omega),⟨⟨by simp,rfl⟩,CusLe.refl _,rfl,fun _ _=>rfl⟩,(show g.n-(r.i+1)<g.n-t.i by omega)⟩
  ·refine ⟨hg.blend _ (by omega),handD g hg t.i,⟨t,⟨⟨rfl,by omega⟩,hk1⟩,⟨by rw [htop],by rw [htop],rfl,rfl⟩,CusLe.refl _,⟨rfl,fun _ _=>rfl⟩,by simp only [and_self,implies_true]⟩,fun q hq=>?_⟩
   obtain ⟨⟨hqi,hqn⟩,hqk⟩:(q.t.i=t.i/\q.t.i<g.n)/\(g.it q.t.i).kind=1:=hq
   have hbq:=al1 hg q.t.i (by omega)
   have hm:=hbq.m _ hbq.top
   refine ⟨⟨by omega,by omega⟩,handE g hg t.i,⟨q,⟨⟨hqi,hqn⟩,hqk⟩,⟨rfl,rfl,rfl,rfl⟩,CusLe.refl _,⟨rfl,fun _ _=>rfl⟩,by simp only [and_self],rfl,fun i hi=>le_mem ?_⟩,fun r hr=>?_⟩
   ·exact SVle.refl _ _ (fun _=>trivial)
   ·obtain ⟨⟨hri,hrn⟩,hrk⟩:(r.i=t.i/\r.i<g.n)/\(g.it r.i).kind=1:=hr
    have hbld:bld g (r.i+1)=(bld g r.i).bgn r.i:=by simp only [bld,aF2,hrk]; rfl
    have hbr:=(al1 hg r.i (by omega)).d2
    exact ⟨⟨by omega,by omega⟩,by omega,⟨r.i+1,r.b,r.c⟩,(show r.i+1<=g.n by omega),⟨⟨by simp,rfl⟩,CusLe.refl _,by rw [hbld]; rfl,fun i hi=>le_opn hbld hi⟩,(show g.n-(r.i+1)<g.n-t.i by omega)⟩
  ·have hkk:=hg.kind t.i (by omega)
   have hdd:=hg.deep t.i (by omega) (by omega)
   have hbld:bld g (t.i+1)={ bld g t.i with d:=(bld g t.i).d-1 }:=by simp only [bld,aF2,if_neg hk,if_neg hk2]
   refine ⟨by omega,⟨by simp,by simp; omega,by simp; omega,by simp⟩,by omega,⟨t.i+1,t.b,t.c⟩,(show t.i+1<=g.n by omega),⟨⟨by simp,rfl⟩,?_,?_,fun i hi=>?_⟩,(show g.n-(t.i+1)<g.n-t.i by omega)⟩
   ·show CusLe _ (gfQ TG TM (fam g (bld g (t.i+1)) t.b t.c))
    rw [hbld]; exact CusLe.refl _
   ·show _=(bld g (t.i+1)).d
    rw [hbld]
    show _=(bld g t.i).d-1
    simp
   ·have hi:i<(bld g (t.i+1)).d:=hi
    show _=ptrV (opn (bld g (t.i+1)) t.b i)
    rw [hbld] at hi ⊢
    have hi:i<(bld g t.i).d-1:=hi
    simp only [opn]
    rw [if_pos (by omega),if_pos hi]
 ·have ht:t.i<=g.n:=ht
  have e:t.i=g.n:=by omega
  refine ⟨handG g hg,⟨t,trivial,rfl,by rw [e]; exact CusLe.refl _⟩,fun _ _ i hi=>?_⟩
  have:=allN_refl (mem_own g (bld g g.n) (bld g g.n).n 0 i) 37
  simp only [allN,true_and] at this
  exact this
end Go.Proofs.YthappngbapbkfaaGreat.Lta
set_option linter.unusedSimpArgs false
set_option linter.unusedVariables false
namespace Go.Proofs.YthappngbapbkfaaGreat.Rgl
open Rga
def inR (r:Rn) (y x:Int):Bool:=decide (r.y=y/\r.x0<=x/\x<r.x1)
def mem (L:List Rn) (y x:Int):Bool:=L.any (fun r=>inR r y x)
theorem ak8 (r:Rn) (y x:Int):inR r y x=true<->r.y=y/\r.x0<=x/\x<r.x1:=decide_eq_true_iff
theorem mem_iff (L:List Rn) (y x:Int):mem L y x=true<->∃ r∈L,r.y=y/\r.x0<=x/\x<r.x1:=by
 unfold mem
 rw [List.any_eq_true]
 exact ⟨fun ⟨r,h,e⟩=>⟨r,h,(ak8 _ _ _).1 e⟩,fun ⟨r,h,e⟩=>⟨r,h,(ak8 _ _ _).2 e⟩⟩
theorem mem_cons (r:Rn) (L:List Rn) (y x:Int):mem (r::L) y x=(inR r y x||mem L y x):=rfl
theorem aR4 (L M:List Rn) (y x:Int):mem (L++M) y x=(mem L y x||mem M y x):=by
 unfold mem; rw [List.any_append]
theorem aH5 (r:Rn) (y x:Int):mem [r] y x=inR r y x:=by
 unfold mem; simp
theorem aP3:vld []:=⟨fun _ h=>(List.not_mem_nil h).elim,List.Pairwise.nil⟩
theorem af5 {r:Rn}{L:List Rn}:vld (r::L)<->okR r/\(∀ s∈L,ltR r s)/\vld L:=by
 unfold vld
 rw [List.pairwise_cons]
 constructor
 ·rintro ⟨h1,h2,h3⟩
  exact ⟨h1 r (List.mem_cons_self ..),h2,fun s hs=>h1 s (List.mem_cons_of_mem _ hs),h3⟩
 ·rintro ⟨h1,h2,h3,h4⟩
  refine ⟨fun s hs=>?_,h2,h4⟩
  rcases List.mem_cons.1 hs with rfl | hs
  ·exact h1
  ·exact h3 s hs
theorem aP2 {r:Rn}{L:List Rn}:vld (L++[r])<->vld L/\okR r/\∀ s∈L,ltR s r:=by
 unfold vld
 rw [List.pairwise_append]
 constructor
 ·rintro ⟨h1,h2,_,h3⟩
  exact ⟨⟨fun s hs=>h1 s (List.mem_append_left _ hs),h2⟩,h1 r (List.mem_append_right _ (List.mem_singleton.2 rfl)),fun s hs=>h3 s hs r (List.mem_singleton.2 rfl)⟩
 ·rintro ⟨⟨h1,h2⟩,h3,h4⟩
  refine ⟨fun s hs=>?_,h2,List.pairwise_singleton _ _,fun s hs t ht=>?_⟩
  ·rcases List.mem_append.1 hs with hs | hs
   ·exact h1 s hs
   ·rw [List.mem_singleton.1 hs]; exact h3
  ·rw [List.mem_singleton.1 ht]; exact h4 s hs
theorem beyond {r:Rn}{L:List Rn}(h:vld (r::L)) {y x:Int}(hm:mem L y x=true):r.y<y\/(r.y=y/\r.x1<x):=by
 obtain ⟨s,hs,h1,h2,h3⟩:=(mem_iff _ _ _).1 hm
 have:=(af5.1 h).2.1 s hs
 unfold ltR at this
 omega
theorem aO0 {r:Rn}{L:List Rn}(h:vld (r::L)) {y x:Int}(hm:mem (r::L) y x=true):r.y<y\/(r.y=y/\r.x0<=x):=by
 rw [mem_cons,Bool.or_eq_true] at hm
 rcases hm with hm | hm
 ·have:=(ak8 _ _ _).1 hm; omega
 ·have:=beyond h hm
  have:=(af5.1 h).1.2
  omega
theorem aE0 {r:Rn}{L:List Rn}(h:vld (r::L)):mem (r::L) r.y r.x0=true:=by
 rw [mem_cons,(ak8 _ _ _).2 ⟨rfl,Int.le_refl _,(af5.1 h).1.2⟩]; rfl
theorem ba9 {r:Rn}{L:List Rn}(h:vld (r::L)) (y x:Int):mem L y x=(mem (r::L) y x&&!inR r y x):=by
 rw [mem_cons]
 by_cases hr:inR r y x=true
 ·rw [hr]
  have:mem L y x≠true:=fun hm=>by
   have:=beyond h hm
   have:=(ak8 _ _ _).1 hr
   omega
  simpa using this
 ·rw [Bool.not_eq_true] at hr
  rw [hr]; simp
theorem noend {r:Rn}{L:List Rn}(h:vld (r::L)):¬ mem (r::L) r.y r.x1=true:=by
 rw [mem_cons,Bool.or_eq_true]
 rintro (hm | hm)
 ·have:=(ak8 _ _ _).1 hm; omega
 ·have:=beyond h hm; omega
theorem uniq:∀ (L M:List Rn),vld L->vld M->(∀ y x,mem L y x=mem M y x)->L=M:=by
 intro L
 induction L with
 | nil=>
  intro M _ hM h
  cases M with
  | nil=>rfl
  | cons s M=>
   have:=aE0 hM
   rw [<-h] at this
   cases this
 | cons r L ih=>
  intro M hL hM h
  cases M with
  | nil=>
   have:=aE0 hL
   rw [h] at this
   cases this
  | cons s M=>
   have h1:=aO0 hM (by rw [<-h]; exact aE0 hL)
   have h2:=aO0 hL (by rw [h]; exact aE0 hM)
   have ey:r.y=s.y:=by omega
   have ex:r.x0=s.x0:=by omega
   have o1:=(af5.1 hL).1.2
   have o2:=(af5.1 hM).1.2
   have e1:r.x1=s.x1:=by
    rcases Int.lt_trichotomy r.x1 s.x1 with hlt | he | hlt
    ·exact absurd (by rw [h,ey,mem_cons,(ak8 _ _ _).2 ⟨rfl,by omega,hlt⟩]; rfl) (noend hL)
    ·exact he
    ·exact absurd (by rw [<-h,<-ey,mem_cons,(ak8 _ _ _).2 ⟨rfl,by omega,hlt⟩]; rfl) (noend hM)
   have e:r=s:=by cases r; cases s; simp only at ey ex e1; subst ey ex e1; rfl
   subst e
   rw [ih M (af5.1 hL).2.2 (af5.1 hM).2.2 (fun y x=>by rw [ba9 hL,ba9 hM,h])]
noncomputable def ofSet (χ:Int->Int->Bool):List Rn:=open Classical in if h:∃ L,vld L/\∀ y x,mem L y x=χ y x then h.choose else []
theorem ofSet_vld (χ:Int->Int->Bool):vld (ofSet χ):=by
 unfold ofSet
 split
 ·next h=>exact h.choose_spec.1
 ·exact aP3
theorem ofSet_eq {χ:Int->Int->Bool}{L:List Rn}(h1:vld L) (h2:∀ y x,mem L y x=χ y x):ofSet χ=L:=by
 unfold ofSet
 have h:∃ L,vld L/\∀ y x,mem L y x=χ y x:=⟨L,h1,h2⟩
 rw [dif_pos h]
 exact uniq _ _ h.choose_spec.1 h1 (fun y x=>by rw [h.choose_spec.2,h2])
def key (r:Rn):Int:=r.y*16385+r.x0
theorem vld_len':∀ (L:List Rn) (r:Rn),vld (r::L)->((r::L).length:Int)<=134226112-key r:=by
 intro L
 induction L with
 | nil=>
  intro r h
  obtain ⟨⟨⟨h1,h2⟩,⟨h3,h4⟩,h5,h6⟩,h7⟩:=(af5.1 h).1
  show (1:Int)<=_
  unfold key; omega
 | cons s L ih=>
  intro r h
  have h0:=ih s (af5.1 h).2.2
  have hl:=(af5.1 h).2.1 s (List.mem_cons_self ..)
  obtain ⟨⟨⟨h1,h2⟩,⟨h3,h4⟩,h5,h6⟩,h7⟩:=(af5.1 h).1
  obtain ⟨⟨⟨k1,k2⟩,⟨k3,k4⟩,k5,k6⟩,k7⟩:=(af5.1 (af5.1 h).2.2).1
  have e:((r::s::L).length:Int)=((s::L).length:Int)+1:=by simp
  rw [e]
  unfold key ltR at *
  omega
theorem vld_len {L:List Rn}(h:vld L):L.length<=300000000:=by
 cases L with
 | nil=>exact Nat.zero_le _
 | cons r L=>
  have:=vld_len' L r h
  obtain ⟨⟨⟨h1,h2⟩,⟨h3,h4⟩,h5,h6⟩,h7⟩:=(af5.1 h).1
  unfold key at this
  omega
theorem aN1 (L:List Rn):L=[]\/∃ P s,L=P++[s]:=by
 rcases List.eq_nil_or_concat L with h | ⟨P,s,h⟩
 ·exact .inl h
 ·exact .inr ⟨P,s,by rw [h,List.concat_eq_append]⟩
theorem add_snoc (P:List Rn) (s r:Rn):addR (P++[s]) r=if r.x0<r.x1 then (if s.y=r.y/\r.x0<=s.x1 then P++[⟨s.y,s.x0,if r.x1>s.x1 then r.x1 else s.x1⟩] else P++[s]++[r]) else P++[s]:=by
 unfold addR
 simp
theorem add_nil (r:Rn):addR [] r=if r.x0<r.x1 then [r] else []:=rfl
def aft (L:List Rn) (y x:Int):Prop:=∀ s,L.getLast?=some s->s.y<y\/(s.y=y/\s.x0<=x)
def aftE (L:List Rn) (y x:Int):Prop:=∀ s,L.getLast?=some s->s.y<y\/(s.y=y/\s.x1<=x)
theorem aE5 {P:List Rn}{s:Rn}{y x:Int}:aft (P++[s]) y x<->s.y<y\/(s.y=y/\s.x0<=x):=by
 unfold aft; simp
theorem aft_nil {y x:Int}:aft [] y x:=fun s h=>by cases h
theorem add_ok {L:List Rn}(hL:vld L) {r:Rn}(hr:r.x0<r.x1->okR r) (h:aft L r.y r.x0) :
  vld (addR L r)/\(∀ y x,mem (addR L r) y x=(mem L y x||inR r y x))/\(∀ y x,(r.y<y\/(r.y=y/\r.x0<=x))->aft (addR L r) y x):=by
 by_cases hx:r.x0<r.x1
 ·have hr:=hr hx
  rcases aN1 L with rfl | ⟨P,s,rfl⟩
  ·rw [add_nil,if_pos hx]
   refine ⟨af5.2 ⟨hr,fun _ h=>(List.not_mem_nil h).elim,aP3⟩,fun y x=>?_,fun y x hy=>?_⟩
   ·rw [aH5]; rfl
   ·exact (aE5 (P:=[])).2 hy
  ·rw [add_snoc,if_pos hx]
   obtain ⟨hP,hs,hPs⟩:=aP2.1 hL
   rw [aE5] at h
   obtain ⟨⟨⟨h1,h2⟩,⟨h3,h4⟩,h5,h6⟩,h7⟩:=hr
   obtain ⟨⟨⟨k1,k2⟩,⟨k3,k4⟩,k5,k6⟩,k7⟩:=hs
   by_cases hm:s.y=r.y/\r.x0<=s.x1
   ·rw [if_pos hm]
    refine ⟨aP2.2 ⟨hP,⟨⟨⟨k1,k2⟩,⟨k3,k4⟩,?_⟩,?_⟩,fun p hp=>hPs p hp⟩,fun y x=>?_,fun y x hy=>?_⟩
    ·show -8192<=(if r.x1>s.x1 then r.x1 else s.x1)/\(if r.x1>s.x1 then r.x1 else s.x1)<=8192
     split<;>omega
    ·show s.x0<(if r.x1>s.x1 then r.x1 else s.x1)
     split<;>omega
    ·rw [aR4,aR4,aH5,aH5,Bool.or_assoc]
     congr 1
     rw [Bool.eq_iff_iff,Bool.or_eq_true,ak8,ak8,ak8]
     show s.y=y/\s.x0<=x/\x<(if r.x1>s.x1 then r.x1 else s.x1)<->_
     split<;>omega
    ·rw [aE5]
     show s.y<y\/(s.y=y/\s.x0<=x)
     omega
   ·rw [if_neg hm]
    refine ⟨aP2.2 ⟨hL,⟨⟨⟨h1,h2⟩,⟨h3,h4⟩,h5,h6⟩,h7⟩,fun p hp=>?_⟩,fun y x=>?_,fun y x hy=>aE5.2 hy⟩
    ·have hsr:ltR s r:=by unfold ltR; omega
     rcases List.mem_append.1 hp with hp | hp
     ·have:=hPs p hp
      unfold ltR at *
      omega
     ·rw [List.mem_singleton.1 hp]; exact hsr
    ·rw [aR4 _ [r],aH5]
 ·have e:addR L r=L:=if_neg hx
  rw [e]
  refine ⟨hL,fun y x=>?_,fun y x hy s hs=>?_⟩
  ·have:inR r y x=false:=by
    rw [<-Bool.not_eq_true,ak8]; omega
   rw [this,Bool.or_false]
  ·have:=h s hs
   omega
end Go.Proofs.YthappngbapbkfaaGreat.Rgl
set_option linter.unusedSimpArgs false
set_option linter.unusedVariables false
namespace Go.Proofs.YthappngbapbkfaaGreat.Lrd
open Go.RowKit Sx Num Aff Afi Img Imh Rga Blend Ble Lsg Lta
set_option maxRecDepth 100000
structure StG where
 y:Int
 x0:Int
 x1:Int
def stL (s:StG):List SV:=[.int .i64 s.y,.int .i64 s.x0,.int .i64 s.x1]
def stS (s:StG):SV:= .agg 3 (lst (stL s))
def stD (g:Nat->SV):StG:=⟨Sx.intOf (g 0),Sx.intOf (g 1),Sx.intOf (g 2)⟩
structure BsG where
 n:Nat
 f:Nat->Rn
 s:StG
def Bfr (r:Rn) (s:StG):Prop:=r.y<s.y\/(r.y=s.y/\r.x1<=s.x0)
instance (r:Rn) (s:StG):Decidable (Bfr r s):=inferInstanceAs (Decidable (_\/_))
def ixB (f:Nat->Rn) (s:StG):Nat->Nat->Nat
 | 0,k=>k
 | m+1,k=>if Bfr (f k) s then ixB f s m (k+1) else k
theorem aN5 (f:Nat->Rn) (s:StG):∀ m k,ixB f s m k<=k+m
 | 0,k=>Nat.le_refl k
 | m+1,k=>by
  unfold ixB; split
  ·have:=aN5 f s m (k+1); omega
  ·omega
theorem aN4 (f:Nat->Rn) (s:StG):∀ m k j,k<=j->j<ixB f s m k->Bfr (f j) s
 | 0,k,j,h1,h2=>by unfold ixB at h2; omega
 | m+1,k,j,h1,h2=>by
  unfold ixB at h2
  split at h2
  ·next he=>
   by_cases hk:j=k
   ·subst hk; exact he
   ·exact aN4 f s m (k+1) j (by omega) h2
  ·omega
theorem ixB_at (f:Nat->Rn) (s:StG):∀ m k,ixB f s m k<k+m->¬ Bfr (f (ixB f s m k)) s
 | 0,k,h=>by unfold ixB at h; omega
 | m+1,k,h=>by
  unfold ixB at h ⊢
  split at h
  ·next he=>rw [if_pos he]; exact ixB_at f s m (k+1) (by omega)
  ·next he=>rw [if_neg he]; exact he
structure BsOK (g:BsG):Prop where
 n:g.n<=4611686018427387904
 mono:∀ i j,i<=j->j<g.n->Bfr (g.f j) g.s->Bfr (g.f i) g.s
theorem BsOK.below {g:BsG}(h:BsOK g) {j:Nat}(hj:j<g.n) (hb:Bfr (g.f j) g.s):j<ixB g.f g.s g.n 0:=by
 refine Nat.not_le.1 fun hc=>?_
 have:=ixB_at g.f g.s g.n 0 (by omega)
 exact this (h.mono _ _ hc hj hb)
def spCmpR:FSpec:=aa5 88 (γ:=Rn×StG) (fun | [.agg _ r,.agg _ s]=>some (rnD r,stD s) | _=>none) (fun g=>[rnS g.1,stS g.2]) (fun _=>True) (fun g=> .int .i64 (if Bfr g.1 g.2 then -1 else 1))
theorem ok_cmpR:aa2 Tryz.prog spCmpR:=by
 refine aa1 (specs:=[]) (aa9 trivial) (eqs:=[]) (fun _ _ h=>(List.not_mem_nil h).elim) Aff.mixed Tryz.func88 rfl (by kernel_rfl) (fun _ _=>by kernel_rfl) (fun g=>A0) (fun g=>Nat.le_of_ble_eq_true (by kernel_rfl)) ?_
 rintro g _
 refine ab5 (B:=let A:=Sx.Ask;let z2:=((1:Int)=if Bfr g.fst g.snd then (-1:Int) else (1:Int));let z1:=((-1:Int)=if Bfr g.fst g.snd then (-1:Int) else (1:Int));let z0:=(IntKind.i64=IntKind.i64);True/\True/\True/\True/\True/\True/\True/\True/\True/\Sx.Br (decide (g.fst.y<g.snd.y)) (True/\True/\True/\A z0/\A z1) (True/\True/\True/\True/\True/\True/\Sx.Br (decide (g.fst.y=g.snd.y)) (True/\True/\True/\True/\True/\True/\True/\Sx.Br (decide (g.fst.x1<=g.snd.x0)) (True/\True/\A z0/\A z1) (True/\True/\A z0/\A z2)) (True/\True/\True/\True/\A z0/\A z2))) (by kernel_rfl) ?_
 simp only [aa4,aa8,eq_self,true_and,and_true,implies_true,forall_const,decide_eq_true_eq,decide_eq_false_iff_not,ne_eq,Nat.mul_one,Nat.add_zero,Nat.zero_add]
 unfold Bfr
 omega
def bsI (g:BsG):Inv:=⟨Nat×Nat,fun q=>q.1<=ixB g.f g.s g.n 0/\ixB g.f g.s g.n 0<=q.2/\q.2<=g.n,
 fun q=>⟨[(0,rgS ⟨g.n,g.f⟩),(2,.fn 88 0 (lst [])),(4,.own 0 0),(8,.int .i64 g.n),(9,.int .i64 q.1),(10,.int .i64 q.2)],[.cells 3 (lst (stL g.s)) 99]⟩,fun q=>q.2-q.1⟩
def spBs:FSpec:=aa5 87 (γ:=BsG) (fun | [r,.agg _ s,_]=>some ⟨aj0 r,rgD r,stD s⟩ | _=>none)
 (fun g=>[rgS ⟨g.n,g.f⟩,stS g.s,.fn 88 0 (lst [])]) BsOK (fun g=> .tup 2 (lst [.int .i64 (ixB g.f g.s g.n 0),.bool false]))
theorem ok_bs:aa2 Tryz.prog spBs:=by
 refine aa1 (specs:=[spCmpR]) (aa9 (⟨ok_cmpR,trivial⟩)) (eqs:=[]) (fun _ _ h=>(List.not_mem_nil h).elim) Aff.mixed Tryz.func87 rfl (by kernel_rfl) (fun _ _=>by kernel_rfl) (fun g=>(⟨[(3,.inv (bsI g))],[]⟩:Ann)) (fun g=>Nat.le_of_ble_eq_true (by kernel_rfl)) ?_
 rintro g hg
 refine ab5 (B:=let K:=Int.toNat;let A:=Sx.Ask;let z16:=((0:Nat)=(0:Nat));let z15:=(2:Int);let z14:=(↑g.n:Int);let z13:=(9223372036854775807:Int);let z12:=(-9223372036854775808:Int);let z8:=(1:Int);let z6:=(A ((88:Go.FuncId)=(88:Go.FuncId))/\True);let z0:=(IntKind.i64=IntKind.i64);let q0:=fun p:Int=>A z0/\A (p=p);let z7:=(q0 z14);let z3:=(A (g.n=g.n)/\∀ i:Nat,i<g.n->((True/\q0 ((g.f i).y))/\q0 ((g.f i).x0))/\q0 ((g.f i).x1));let z2:=(((True/\q0 g.s.y)/\q0 g.s.x0)/\q0 g.s.x1);True/\True/\True/\True/\True/\True/\True/\True/\True/\(∃ (g_1:Nat×Nat),A ((bsI g).pre g_1)/\(z3/\z6/\A z16/\z7/\(A z0/\A ((0:Int)=(↑g_1.fst:Int)))/\(A z0/\A (z14=(↑g_1.snd:Int)))/\True)/\z2/\True)/\∀ (g_1:Nat×Nat),let z11:=(↑g_1.snd:Int);let z4:=(↑g_1.fst:Int);let z10:=(g.f z4.toNat);let z9:=(True/\A z0/\A (z4=(↑(ixB g.f g.s g.n (0:Nat)):Int)));let z5:=(z4+z11);let z1:=(g.f (IntKind.u64.wrap z5 / z15 ^ K z8).toNat); (bsI g).pre g_1->True/\True/\True/\Sx.Br (decide (z4<z11)) (True/\True/\A (z12<=z4+z11/\z4+z11<=z13)/\A True/\A ((0:Int)<=z8/\z8<=(↑IntKind.u64.bits:Int))/\A (z12<=IntKind.u64.wrap z5 / z15 ^ K z8/\IntKind.u64.wrap z5 / z15 ^ K z8<=z13)/\True/\True/\True/\True/\A ((0:Int)<=IntKind.u64.wrap z5 / z15 ^ K z8/\IntKind.u64.wrap z5 / z15 ^ K z8<z14)/\True/\True/\(((((True/\q0 z1.y)/\q0 z1.x0)/\q0 z1.x1)/\z2/\True)/\A True)/\True/\Sx.Br (decide ((if Bfr z1 g.s then (-1:Int) else z8)<(0:Int))) (True/\A (z12<=IntKind.u64.wrap z5 / z15 ^ K z8+z8/\IntKind.u64.wrap z5 / z15 ^ K z8+z8<=z13)/\True/\∃ (g':Nat×Nat),A ((bsI g).pre g')/\((z3/\z6/\A z16/\z7/\(A z0/\A (IntKind.u64.wrap z5 / z15 ^ K z8+z8=(↑g'.fst:Int)))/\(A z0/\A (z11=(↑g'.snd:Int)))/\True)/\z2/\True)/\A ((bsI g).meas g'<(bsI g).meas g_1)) (True/\True/\∃ (g':Nat×Nat),A ((bsI g).pre g')/\((z3/\z6/\A z16/\z7/\(A z0/\A (z4=(↑g'.fst:Int)))/\(A z0/\A (IntKind.u64.wrap z5 / z15 ^ K z8=(↑g'.snd:Int)))/\True)/\z2/\True)/\A ((bsI g).meas g'<(bsI g).meas g_1))) (True/\True/\True/\True/\True/\Sx.Br (decide (z4<z14)) (True/\True/\True/\A ((0:Int)<=z4/\z4<z14)/\True/\True/\(((((True/\q0 z10.y)/\q0 z10.x0)/\q0 z10.x1)/\z2/\True)/\A True)/\True/\True/\True/\True/\True/\z9/\A (decide ((if Bfr z10 g.s then (-1:Int) else z8)=(0:Int))=false)) (True/\True/\True/\True/\z9/\A (false=false)))) (by kernel_rfl) ?_
 simp only [aa4,aa8,eq_self,true_and,and_true,implies_true,forall_const,decide_eq_true_eq,decide_eq_false_iff_not,ne_eq,Nat.mul_one,Nat.add_zero,Nat.zero_add]
 have hn:=hg.n
 have h1:=aN5 g.f g.s g.n 0
 refine ⟨⟨(0,g.n),⟨Nat.zero_le _,by omega,Nat.le_refl _⟩,rfl,rfl⟩,fun q hq=>?_⟩
 obtain ⟨lo,hi⟩:=q
 obtain ⟨q1,q2,q3⟩:lo<=ixB g.f g.s g.n 0/\ixB g.f g.s g.n 0<=hi/\hi<=g.n:=hq
 have hw:IntKind.u64.wrap ((lo:Int)+(hi:Int)) / 2 ^ Int.toNat 1=(((lo+hi) / 2:Nat):Int):=by
  have:IntKind.u64.wrap ((lo:Int)+(hi:Int))=(lo:Int)+hi:=by
   show ((lo:Int)+hi) % 18446744073709551616=_
   omega
  rw [this]
  show ((lo:Int)+hi) / 2=_
  omega
 simp only [hw,Int.toNat_natCast]
 refine ⟨fun hlt=>⟨by omega,⟨by omega,by decide⟩,by omega,by omega,fun hc=>?_,fun hc=>?_⟩,fun hge=>⟨fun hl=>⟨by omega,by omega,by split<;>omega⟩,fun hl=>by omega⟩⟩
 ·have hb:Bfr (g.f ((lo+hi) / 2)) g.s:=by
   by_cases h:Bfr (g.f ((lo+hi) / 2)) g.s
   ·exact h
   ·rw [if_neg h] at hc; omega
  have:=hg.below (by omega) hb
  exact ⟨by omega,((lo+hi) / 2+1,hi),⟨by show (lo+hi) / 2+1<=_; omega,q2,q3⟩,⟨by simp,rfl⟩,by show hi-((lo+hi) / 2+1)<hi-lo; omega⟩
 ·have hb:¬ Bfr (g.f ((lo+hi) / 2)) g.s:=fun h=>by rw [if_pos h] at hc; omega
  have:ixB g.f g.s g.n 0<=(lo+hi) / 2:=Nat.not_lt.1 fun hc=>hb (aN4 g.f g.s g.n 0 _ (Nat.zero_le _) hc)
  exact ⟨(lo,(lo+hi) / 2),⟨q1,this,by show (lo+hi) / 2<=g.n; omega⟩,⟨rfl,rfl⟩,by show (lo+hi) / 2-lo<hi-lo; omega⟩
structure RnG where
 n:Nat
 f:Nat->Rn
 s:StG
structure RnOK (g:RnG):Prop where
 bs:BsOK ⟨g.n,g.f,g.s⟩
 one:g.s.x1=g.s.x0+1
 out:∀ i,i<g.n->(g.f i).y=g.s.y->¬ ((g.f i).x0<=g.s.x0/\g.s.x0<(g.f i).x1)
def setC (c:Nat->SV) (k:Nat) (x:SV) (j:Nat):SV:=bif Nat.beq j k then x else c j
inductive Unc (s:StG):Nat->TypeId->(Nat->SV)->Prop
 | fill {n:Nat}(c:Nat->SV) (m:Nat) (f:Nat->Rn) (hg:RnOK ⟨m,f,s⟩):Unc s n TPf (setC c 1 (rgS ⟨m,f⟩))
 | grp {n:Nat}(c:Nat->SV) (len:Nat) (ty:Nat->TypeId) (cc:Nat->Nat->SV) (hl:len<=4294967296) (hm:∀ a,a<len->Unc s n (ty a) (cc a)) (ho:∀ a,a<len->∀ j,ae7 (cc a j)) :
   Unc s (n+1) TPg (setC c 36 (.sl len 1 (fun a _=> .ifc (ty a) (fun _=> .ref 37 (cc a)))))
structure CvG where
 s:StG
 T:TypeId
 c:Nat->SV
 nm:Nat
 mkf:Nat->Bool
def mkS (n:Nat) (mk:Nat->Bool):SV:= .sl n 1 (fun i _=> .bool (mk i))
def cvI (g:CvG):Inv:=⟨Nat,fun i=>i<=aj0 (g.c 36),fun i=>⟨[(3,.own 0 0),(5,.own 1 0),(28,g.c 36),(29,.int .i64 (aj0 (g.c 36))),(30,.int .i64 i)],
 [.cells 3 (lst (stL g.s)) 99,.cells 1 (lst [mkS g.nm g.mkf]) 149]⟩,fun i=>aj0 (g.c 36)-i⟩
structure CtG where
 n:Nat
 mkf:Nat->Bool
structure CtOK (g:CtG):Prop where
 n:g.n<=4294967296
 no:∀ i,i<g.n->g.mkf i=false
structure NsG where
 s:StG
 c:Nat->SV
 nb:Nat
 bs:Nat->Nat->Int
 ns:Nat
 st:Nat->Nat->Int
def staS (n:Nat) (f:Nat->Nat->Int):SV:= .sl n 9 (fun i j=> .int .u8 (f i j))
structure PtG where
 s:StG
 c:Nat->SV
 ns:Nat
 st:Nat->Nat->Int
inductive UncP (s:StG) (n:Nat):(Nat->SV)->Prop
 | mk (c:Nat->SV) (len:Nat) (ty:Nat->TypeId) (cc:Nat->Nat->SV) (hl:len<=4294967296) (hm:∀ a,a<len->Unc s n (ty a) (cc a)) (ho:∀ a,a<len->∀ j,ae7 (cc a j)) :
   UncP s n (setC (setC c 33 (.bool false)) 36 (.sl len 1 (fun a _=> .ifc (ty a) (fun _=> .ref 37 (cc a)))))
def ptT (g:PtG) (i:Nat):Tmps:=[(3,.ref 3 (lst (stL g.s))),(5,.ref 1 (lst [staS g.ns g.st])),(6,.ref 1 (lst [staS g.ns g.st])),(22,g.c 36),(23,.int .i64 (aj0 (g.c 36))),(24,.int .i64 i)]
def ptI (g:PtG):Inv:=⟨Nat,fun i=>i<=aj0 (g.c 36),fun i=>⟨ptT g i,[]⟩,fun i=>aj0 (g.c 36)-i⟩
structure MbG where
 ty:TypeId
 cc:Nat->SV
def mbI (g:PtG) (n i:Nat):Inv:=⟨MbG,fun m=>Unc g.s n m.ty m.cc/\∀ j,ae7 (m.cc j),fun m=>⟨(28,.ifc m.ty (fun _=> .ref 37 m.cc))::ptT g i,[]⟩,fun _=>0⟩
structure FmG where
 m:Nat
 f:Nat->Rn
 c:Nat->SV
def mbF (g:PtG) (i:Nat):Inv:=⟨FmG,fun m=>RnOK ⟨m.m,m.f,g.s⟩,fun m=>⟨(28,.ifc TPf (fun _=> .ref 37 (setC m.c 1 (rgS ⟨m.m,m.f⟩))))::ptT g i,[]⟩,fun _=>0⟩
def mbJ (g:PtG) (n i:Nat):Inv:=⟨Nat->SV,fun c=>Unc g.s n TPg c/\∀ j,ae7 (c j),fun c=>⟨(28,.ifc TPg (fun _=> .ref 37 c))::ptT g i,[]⟩,fun _=>0⟩
end Go.Proofs.YthappngbapbkfaaGreat.Lrd
set_option linter.unusedSimpArgs false
set_option linter.unusedVariables false
namespace Go.Proofs.YthappngbapbkfaaGreat.Lri
open Go.RowKit Sx Num Aff Afi Img Imh Rga Blend Ble Lsg Lta Lrd
set_option maxRecDepth 100000
def sOf (r:Rn):StG:=⟨r.y,r.x0,r.x0+1⟩
structure BrG where
 n:Nat
 f:Nat->Rn
 r:Rn
def BrG.b (g:BrG):BsG:=⟨g.n,g.f,sOf g.r⟩
def spNaN:FSpec:=aa5 67 (γ:=Int) (fun | [.int _ x]=>some x | _=>none) (fun x=>[.int .i64 x]) (fun _=>True) (fun _=> .lit false)
theorem ok_nan:aa2 Tryz.prog spNaN:=by
 refine aa1 (specs:=[]) (aa9 trivial) (eqs:=[]) (fun _ _ h=>(List.not_mem_nil h).elim) Aff.mixed Tryz.func67 rfl (by kernel_rfl) (fun _ _=>by kernel_rfl) (fun g=>A0) (fun g=>Nat.le_of_ble_eq_true (by kernel_rfl)) ?_
 rintro x hx
 refine ab5 (B:=True/\True/\True/\True/\True/\True/\Sx.Ask (decide (x≠x)=false)) (by kernel_rfl) ?_
 simp only [aa4,aa8,eq_self,true_and,and_true,implies_true,forall_const,decide_eq_true_eq,decide_eq_false_iff_not,ne_eq,Nat.mul_one,Nat.add_zero,Nat.zero_add]
 simp
def cmpI (x y:Int):Int:=if x<y then -1 else if y<x then 1 else 0
def spCmpC:FSpec:=aa5 45 (γ:=Int×Int) (fun | [.int _ a,.int _ b]=>some (a,b) | _=>none) (fun g=>[.int .i64 g.1,.int .i64 g.2]) (fun _=>True) (fun g=> .int .i64 (cmpI g.1 g.2))
theorem ok_cmpC:aa2 Tryz.prog spCmpC:=by
 refine aa1 (specs:=[spNaN]) (aa9 (⟨ok_nan,trivial⟩)) (eqs:=[]) (fun _ _ h=>(List.not_mem_nil h).elim) Aff.mixed Tryz.func45 rfl (by kernel_rfl) (fun _ _=>by kernel_rfl) (fun g=>A0) (fun g=>Nat.le_of_ble_eq_true (by kernel_rfl)) ?_
 rintro g _
 refine ab5 (B:=let A:=Sx.Ask;let z0:=(IntKind.i64=IntKind.i64);True/\True/\(((A z0/\A (g.fst=g.fst))/\True)/\A True)/\True/\True/\(((A z0/\A (g.snd=g.snd))/\True)/\A True)/\True/\True/\True/\True/\True/\True/\Sx.Br (decide (g.fst<g.snd)) (True/\True/\A z0/\A ((-1:Int)=cmpI g.fst g.snd)) (True/\True/\True/\Sx.Br (decide (g.snd<g.fst)) (True/\True/\A z0/\A ((1:Int)=cmpI g.fst g.snd)) (True/\True/\A z0/\A ((0:Int)=cmpI g.fst g.snd)))) (by kernel_rfl) ?_
 simp only [aa4,aa8,eq_self,true_and,and_true,implies_true,forall_const,decide_eq_true_eq,decide_eq_false_iff_not,ne_eq,Nat.mul_one,Nat.add_zero,Nat.zero_add]
 unfold cmpI
 omega
def spCmpI:FSpec:=aa5 44 (γ:=Rn×Rn) (fun | [.agg _ r,.agg _ s]=>some (rnD r,rnD s) | _=>none) (fun g=>[rnS g.1,rnS g.2]) (fun _=>True) (fun g=> .int .i64 (if Bfr g.1 (sOf g.2) then -1 else 1))
theorem ok_cmpI:aa2 Tryz.prog spCmpI:=by
 refine aa1 (specs:=[spCmpC]) (aa9 (⟨ok_cmpC,trivial⟩)) (eqs:=[]) (fun _ _ h=>(List.not_mem_nil h).elim) Aff.mixed Tryz.func44 rfl (by kernel_rfl) (fun _ _=>by kernel_rfl) (fun g=>A0) (fun g=>Nat.le_of_ble_eq_true (by kernel_rfl)) ?_
 rintro g _
 refine ab5 (B:=let A:=Sx.Ask;let z0:=(IntKind.i64=IntKind.i64);True/\True/\True/\True/\True/\True/\True/\(((A z0/\A (g.fst.y=g.fst.y))/\(A z0/\A (g.snd.y=g.snd.y))/\True)/\A True)/\True/\True/\True/\Sx.Br (decide (cmpI g.fst.y g.snd.y≠(0:Int))) (True/\True/\True/\A z0/\A (cmpI g.fst.y g.snd.y=if Lrd.Bfr g.fst (sOf g.snd) then (-1:Int) else (1:Int))) (True/\True/\True/\True/\True/\Sx.Br (decide (g.fst.x1<=g.snd.x0)) (True/\True/\A z0/\A ((-1:Int)=if Lrd.Bfr g.fst (sOf g.snd) then (-1:Int) else (1:Int))) (True/\True/\A z0/\A ((1:Int)=if Lrd.Bfr g.fst (sOf g.snd) then (-1:Int) else (1:Int))))) (by kernel_rfl) ?_
 simp only [aa4,aa8,eq_self,true_and,and_true,implies_true,forall_const,decide_eq_true_eq,decide_eq_false_iff_not,ne_eq,Nat.mul_one,Nat.add_zero,Nat.zero_add]
 unfold Bfr sOf cmpI
 simp only
 omega
def brI (g:BrG):Inv:=⟨Nat×Nat,fun q=>q.1<=ixB g.f (sOf g.r) g.n 0/\ixB g.f (sOf g.r) g.n 0<=q.2/\q.2<=g.n,
 fun q=>⟨[(0,rgS ⟨g.n,g.f⟩),(2,.fn 44 0 (lst [])),(4,.own 0 0),(8,.int .i64 g.n),(9,.int .i64 q.1),(10,.int .i64 q.2)],[.cells 3 (lst (rnL g.r)) 70]⟩,fun q=>q.2-q.1⟩
def spBr:FSpec:=aa5 43 (γ:=BrG) (fun | [r,.agg _ s,_]=>some ⟨aj0 r,rgD r,rnD s⟩ | _=>none)
 (fun g=>[rgS ⟨g.n,g.f⟩,rnS g.r,.fn 44 0 (lst [])]) (fun g=>BsOK g.b) (fun g=> .tup 2 (lst [.int .i64 (ixB g.f (sOf g.r) g.n 0),.bool false]))
theorem ok_br:aa2 Tryz.prog spBr:=by
 refine aa1 (specs:=[spCmpI]) (aa9 (⟨ok_cmpI,trivial⟩)) (eqs:=[]) (fun _ _ h=>(List.not_mem_nil h).elim) Aff.mixed Tryz.func43 rfl (by kernel_rfl) (fun _ _=>by kernel_rfl) (fun g=>(⟨[(3,.inv (brI g))],[]⟩:Ann)) (fun g=>Nat.le_of_ble_eq_true (by kernel_rfl)) ?_
 rintro g hg
 refine ab5 (B:=let K:=Int.toNat;let A:=Sx.Ask;let z16:=((0:Nat)=(0:Nat));let z15:=(2:Int);let z14:=(↑g.n:Int);let z13:=(9223372036854775807:Int);let z12:=(-9223372036854775808:Int);let z9:=(1:Int);let z6:=(A ((44:Go.FuncId)=(44:Go.FuncId))/\True);let z0:=(IntKind.i64=IntKind.i64);let q0:=fun p:Int=>A z0/\A (p=p);let z7:=(q0 z14);let z3:=(A (g.n=g.n)/\∀ i:Nat,i<g.n->((True/\q0 ((g.f i).y))/\q0 ((g.f i).x0))/\q0 ((g.f i).x1));let z2:=(((True/\q0 g.r.y)/\q0 g.r.x0)/\q0 g.r.x1);True/\True/\True/\True/\True/\True/\True/\True/\True/\(∃ (g_1:Nat×Nat),A ((brI g).pre g_1)/\(z3/\z6/\A z16/\z7/\(A z0/\A ((0:Int)=(↑g_1.fst:Int)))/\(A z0/\A (z14=(↑g_1.snd:Int)))/\True)/\z2/\True)/\∀ (g_1:Nat×Nat),let z11:=(↑g_1.snd:Int);let z4:=(↑g_1.fst:Int);let z10:=(g.f z4.toNat);let z8:=(True/\A z0/\A (z4=(↑(Lrd.ixB g.f (sOf g.r) g.n (0:Nat)):Int)));let z5:=(z4+z11);let z1:=(g.f (IntKind.u64.wrap z5 / z15 ^ K z9).toNat); (brI g).pre g_1->True/\True/\True/\Sx.Br (decide (z4<z11)) (True/\True/\A (z12<=z4+z11/\z4+z11<=z13)/\A True/\A ((0:Int)<=z9/\z9<=(↑IntKind.u64.bits:Int))/\A (z12<=IntKind.u64.wrap z5 / z15 ^ K z9/\IntKind.u64.wrap z5 / z15 ^ K z9<=z13)/\True/\True/\True/\True/\A ((0:Int)<=IntKind.u64.wrap z5 / z15 ^ K z9/\IntKind.u64.wrap z5 / z15 ^ K z9<z14)/\True/\True/\(((((True/\q0 z1.y)/\q0 z1.x0)/\q0 z1.x1)/\z2/\True)/\A True)/\True/\Sx.Br (decide ((if Lrd.Bfr z1 (sOf g.r) then (-1:Int) else z9)<(0:Int))) (True/\A (z12<=IntKind.u64.wrap z5 / z15 ^ K z9+z9/\IntKind.u64.wrap z5 / z15 ^ K z9+z9<=z13)/\True/\∃ (g':Nat×Nat),A ((brI g).pre g')/\((z3/\z6/\A z16/\z7/\(A z0/\A (IntKind.u64.wrap z5 / z15 ^ K z9+z9=(↑g'.fst:Int)))/\(A z0/\A (z11=(↑g'.snd:Int)))/\True)/\z2/\True)/\A ((brI g).meas g'<(brI g).meas g_1)) (True/\True/\∃ (g':Nat×Nat),A ((brI g).pre g')/\((z3/\z6/\A z16/\z7/\(A z0/\A (z4=(↑g'.fst:Int)))/\(A z0/\A (IntKind.u64.wrap z5 / z15 ^ K z9=(↑g'.snd:Int)))/\True)/\z2/\True)/\A ((brI g).meas g'<(brI g).meas g_1))) (True/\True/\True/\True/\True/\Sx.Br (decide (z4<z14)) (True/\True/\True/\A ((0:Int)<=z4/\z4<z14)/\True/\True/\(((((True/\q0 z10.y)/\q0 z10.x0)/\q0 z10.x1)/\z2/\True)/\A True)/\True/\True/\True/\True/\True/\z8/\A (decide ((if Lrd.Bfr z10 (sOf g.r) then (-1:Int) else z9)=(0:Int))=false)) (True/\True/\True/\True/\z8/\A (false=false)))) (by kernel_rfl) ?_
 simp only [aa4,aa8,eq_self,true_and,and_true,implies_true,forall_const,decide_eq_true_eq,decide_eq_false_iff_not,ne_eq,Nat.mul_one,Nat.add_zero,Nat.zero_add]
 have hn:g.n<=4611686018427387904:=hg.n
 have h1:=aN5 g.f (sOf g.r) g.n 0
 refine ⟨⟨(0,g.n),⟨Nat.zero_le _,by omega,Nat.le_refl _⟩,rfl,rfl⟩,fun q hq=>?_⟩
 obtain ⟨lo,hi⟩:=q
 obtain ⟨q1,q2,q3⟩:lo<=ixB g.f (sOf g.r) g.n 0/\ixB g.f (sOf g.r) g.n 0<=hi/\hi<=g.n:=hq
 have hw:IntKind.u64.wrap ((lo:Int)+(hi:Int)) / 2 ^ Int.toNat 1=(((lo+hi) / 2:Nat):Int):=by
  have:IntKind.u64.wrap ((lo:Int)+(hi:Int))=(lo:Int)+hi:=by
   show ((lo:Int)+hi) % 18446744073709551616=_
   omega
  rw [this]
  show ((lo:Int)+hi) / 2=_
  omega
 simp only [hw,Int.toNat_natCast]
 refine ⟨fun hlt=>⟨by omega,⟨by omega,by decide⟩,by omega,by omega,fun hc=>?_,fun hc=>?_⟩,fun hge=>⟨fun hl=>⟨by omega,by omega,by split<;>omega⟩,fun hl=>by omega⟩⟩
 ·have hb:Bfr (g.f ((lo+hi) / 2)) (sOf g.r):=by
   by_cases h:Bfr (g.f ((lo+hi) / 2)) (sOf g.r)
   ·exact h
   ·rw [if_neg h] at hc; omega
  have:(lo+hi) / 2<ixB g.f (sOf g.r) g.n 0:=hg.below (show (lo+hi) / 2<g.n by omega) hb
  exact ⟨by omega,((lo+hi) / 2+1,hi),⟨by show (lo+hi) / 2+1<=_; omega,q2,q3⟩,⟨by simp,rfl⟩,by show hi-((lo+hi) / 2+1)<hi-lo; omega⟩
 ·have hb:¬ Bfr (g.f ((lo+hi) / 2)) (sOf g.r):=fun h=>by rw [if_pos h] at hc; omega
  have:ixB g.f (sOf g.r) g.n 0<=(lo+hi) / 2:=Nat.not_lt.1 fun hc=>hb (aN4 g.f (sOf g.r) g.n 0 _ (Nat.zero_le _) hc)
  exact ⟨(lo,(lo+hi) / 2),⟨q1,this,by show (lo+hi) / 2<=g.n; omega⟩,⟨rfl,rfl⟩,by show (lo+hi) / 2-lo<hi-lo; omega⟩
structure InG where
 n:Nat
 f:Nat->Rn
 x:Int
 y:Int
def InG.ix (g:InG):Nat:=ixB g.f (sOf ⟨g.y,g.x,0⟩) g.n 0
def InG.is (g:InG):Prop:=g.ix<g.n/\(g.f g.ix).y=g.y/\(g.f g.ix).x0<=g.x/\g.x<(g.f g.ix).x1
instance (g:InG):Decidable g.is:=inferInstanceAs (Decidable (_/\_))
def spIn:FSpec:=aa5 25 (γ:=InG) (fun | [r,.int _ x,.int _ y]=>some ⟨aj0 r,rgD r,x,y⟩ | _=>none) (fun g=>[rgS ⟨g.n,g.f⟩,.int .i64 g.x,.int .i64 g.y]) (fun g=>BsOK ⟨g.n,g.f,sOf ⟨g.y,g.x,0⟩⟩) (fun g=> .bool (decide g.is))
theorem ok_in:aa2 Tryz.prog spIn:=by
 refine aa1 (specs:=[spBr]) (aa9 (⟨ok_br,trivial⟩)) (eqs:=[]) (fun _ _ h=>(List.not_mem_nil h).elim) Aff.mixed Tryz.func25 rfl (by kernel_rfl) (fun _ _=>by kernel_rfl) (fun g=>A0) (fun g=>Nat.le_of_ble_eq_true (by kernel_rfl)) ?_
 rintro g hg
 refine ab5 (B:=let T6:=fun p:Prop=>True/\True/\True/\True/\True/\True/\p;let A:=Sx.Ask;let z3:=(false=decide g.is);let z1:=(IntKind.i64=IntKind.i64);let q1:=fun p:Int=>A z1/\A (p=p);let z0:=(↑(Lrd.ixB g.f (sOf (Rga.Rn.mk g.y g.x (0:Int))) g.n (0:Nat)):Int);let z2:=((0:Int)<=z0/\z0<(↑g.n:Int));True/\True/\True/\True/\True/\(((A (g.n=g.n)/\∀ i:Nat,i<g.n->((True/\q1 ((g.f i).y))/\q1 ((g.f i).x0))/\q1 ((g.f i).x1))/\(((True/\q1 g.y)/\q1 g.x)/\q1 ((0:Int)))/\(A ((44:Nat)=(44:Go.FuncId))/\True)/\True)/\A (Lrd.BsOK (BrG.mk g.n g.f (Rga.Rn.mk g.y g.x (0:Int))).b))/\T6 (True/\True/\True/\True/\Sx.Br (decide (z0<(↑g.n:Int))) (True/\True/\A z2/\T6 (Sx.Br (decide ((g.f z0.toNat).y=g.y)) (True/\True/\A z2/\T6 (Sx.Br (decide ((g.f z0.toNat).x0<=g.x)) (True/\True/\True/\A z2/\T6 (A (decide (g.x<(g.f z0.toNat).x1)=decide g.is))) (True/\True/\True/\A z3))) (True/\True/\True/\True/\True/\A z3))) (T6 (True/\A z3)))) (by kernel_rfl) ?_
 simp only [aa4,aa8,eq_self,true_and,and_true,implies_true,forall_const,decide_eq_true_eq,decide_eq_false_iff_not,ne_eq,Nat.mul_one,Nat.add_zero,Nat.zero_add]
 simp only [Int.toNat_natCast]
 have e:ixB g.f (sOf ⟨g.y,g.x,0⟩) g.n 0=g.ix:=rfl
 rw [e]
 refine ⟨hg,fun h1=>⟨by omega,fun h2=>⟨by omega,fun h3=>⟨by omega,?_⟩,fun h3=>?_⟩,fun h2=>?_⟩,fun h1=>?_⟩
 ·exact decide_eq_decide.2 ⟨fun h4=>⟨by omega,h2,h3,h4⟩,fun h4=>h4.2.2.2⟩
 ·exact (decide_eq_false fun h4:g.is=>h3 h4.2.2.1).symm
 ·exact (decide_eq_false fun h4:g.is=>h2 h4.2.1).symm
 ·exact (decide_eq_false fun h4:g.is=>h1 (by have:=h4.1; omega)).symm
end Go.Proofs.YthappngbapbkfaaGreat.Lri
set_option linter.unusedSimpArgs false
set_option linter.unusedVariables false
namespace Go.Proofs.YthappngbapbkfaaGreat.Luc
open Go.RowKit Sx Num Aff Afi Img Imh Rga Blend Ble Lsg Lta Lrd Lri
structure Vr (n:Nat) (f:Nat->Rn):Prop where
 len:n<=4611686018427387904
 lt:∀ i,i<n->(f i).x0<(f i).x1
 ord:∀ i,i+1<n->(f i).y<(f (i+1)).y\/((f i).y=(f (i+1)).y/\(f i).x1<(f (i+1)).x0)
theorem Vr.mono {n f} (h:Vr n f) (s:StG):BsOK ⟨n,f,s⟩:=by
 refine ⟨h.len,fun i j hij hj hb=>?_⟩
 have hj:j<n:=hj
 have hb:Bfr (f j) s:=hb
 show Bfr (f i) s
 induction j with
 | zero=>
  obtain rfl:i=0:=by omega
  exact hb
 | succ j ih=>
  by_cases he:i=j+1
  ·subst he; exact hb
  ·have h1:=h.ord j hj
   have h2:=h.lt (j+1) hj
   have key:Bfr (f j) s:=by
    unfold Bfr at hb ⊢
    omega
   exact ih (by omega) (show j<n by omega) key (by omega) key
theorem Vr.far {n f} (h:Vr n f):∀ j i,i<j->j<n->(f i).y<(f j).y\/((f i).y=(f j).y/\(f i).x1<(f j).x0)
 | 0,i,hi,_=>absurd hi (Nat.not_lt_zero _)
 | j+1,i,hi,hj=>by
  have h1:=h.ord j hj
  by_cases he:i=j
  ·subst he; exact h1
  ·have h2:=h.far j i (by omega) (by omega)
   have h3:=h.lt j (by omega)
   omega
theorem Vr.out {n f x y} (h:Vr n f) (hin:¬ (InG.mk n f x y).is):RnOK ⟨n,f,⟨y,x,x+1⟩⟩:=by
 refine ⟨h.mono _,rfl,fun i hi hy hc=>hin ?_⟩
 have hi:i<n:=hi
 have hy:(f i).y=y:=hy
 have hc:(f i).x0<=x/\x<(f i).x1:=hc
 have hs:sOf ⟨y,x,0⟩=⟨y,x,x+1⟩:=rfl
 have hm:=h.mono (sOf ⟨y,x,0⟩)
 have hle:=aN5 f (sOf ⟨y,x,0⟩) n 0
 have h1:¬ Bfr (f i) (sOf ⟨y,x,0⟩):=by unfold Bfr sOf; simp only; omega
 have h2:ixB f (sOf ⟨y,x,0⟩) n 0<=i:=Nat.not_lt.1 fun hl=>h1 (aN4 f _ n 0 i (Nat.zero_le _) hl)
 have h3:ixB f (sOf ⟨y,x,0⟩) n 0=i:=by
  refine Nat.le_antisymm h2 (Nat.not_lt.1 fun hl=>?_)
  have h4:=ixB_at f (sOf ⟨y,x,0⟩) n 0 (by omega)
  refine h4 ?_
  have:=h.far i _ hl hi
  show (f (ixB f (sOf ⟨y,x,0⟩) n 0)).y<y\/((f (ixB f (sOf ⟨y,x,0⟩) n 0)).y=y/\(f (ixB f (sOf ⟨y,x,0⟩) n 0)).x1<=x)
  generalize ixB f (sOf ⟨y,x,0⟩) n 0=K at *
  omega
 show ixB f (sOf ⟨y,x,0⟩) n 0<n/\_
 refine ⟨by omega,?_,?_,?_⟩
 ·show (f (ixB f (sOf ⟨y,x,0⟩) n 0)).y=y
  rw [h3]; exact hy
 ·show (f (ixB f (sOf ⟨y,x,0⟩) n 0)).x0<=x
  rw [h3]; exact hc.1
 ·show x<(f (ixB f (sOf ⟨y,x,0⟩) n 0)).x1
  rw [h3]; exact hc.2
def LeafOK (L:LsG) (B:Bld) (i:Nat):Prop:=∀ g a,g<B.n->a<B.m g->B.kid g a=none->B.leaf g a<i/\(L.it (B.leaf g a)).kind=0
theorem LeafOK.push {L B i k} (h:LeafOK L B i) (hk:k=none->(L.it i).kind=0):LeafOK L (B.push k i) (i+1):=by
 intro g a hg ha hn
 have hg:g<B.n:=hg
 simp only [Bld.push] at ha hn ⊢
 by_cases hc:g=B.top/\a=B.m g
 ·rw [if_pos hc] at hn ⊢
  exact ⟨Nat.lt_succ_self _,hk hn⟩
 ·rw [if_neg hc] at hn ⊢
  have ha':a<B.m g:=by
   split at ha
   ·rename_i hg'
    have:a≠B.m g:=fun e=>hc ⟨hg',e⟩
    omega
   ·exact ha
  have:=h g a hg ha' hn
  exact ⟨by omega,this.2⟩
theorem aR5 {L:LsG}(h:LsOK L):∀ i,i<=L.n->LeafOK L (bld L i) i
 | 0,_=>fun _ _ _ ha=>absurd ha (Nat.not_lt_zero _)
 | i+1,hi=>by
  have hb:=aR5 h i (by omega)
  simp only [bld,aF2]
  split
  ·rename_i h0
   exact hb.push fun _=>h0
  ·split
   ·intro g a hg ha hn
    have hp:=hb.push (k:=some (bld L i).n) (fun hc=>(nomatch hc))
    have ha:a<(if g=(bld L i).n then 0 else ((bld L i).push (some (bld L i).n) i).m g):=ha
    split at ha
    ·exact absurd ha (Nat.not_lt_zero _)
    ·have hg:g<(bld L i).n+1:=hg
     exact hp g a (by show g<(bld L i).n; omega) ha hn
   ·intro g a hg ha hn
    have:=hb g a hg ha hn
    exact ⟨by have:=this.1; show (bld L i).leaf g a<i+1; omega,this.2⟩
end Go.Proofs.YthappngbapbkfaaGreat.Luc
set_option linter.unusedSimpArgs false
set_option linter.unusedVariables false
namespace Go.Proofs.YthappngbapbkfaaGreat.Lro
open Go.RowKit Sx Num Aff Afi Img Imh Rga Blend Ble Lsg Lta Lrd Lri Luc
set_option maxRecDepth 100000
def paperV (j:Nat):Int:=if j=0 then 255 else 0
def a08:FSpec:=aa5 40 (γ:=Unit) (fun _=>some ()) (fun _=>[]) (fun _=>True) (fun _=> .agg 9 (fun j=> .int .u8 (paperV j)))
structure RwG where
 c:Nat->SV
 k:Int
 y:Int
 x:Int
end Go.Proofs.YthappngbapbkfaaGreat.Lro
set_option linter.unusedSimpArgs false
set_option linter.unusedVariables false
namespace Go.Proofs.YthappngbapbkfaaGreat.Lck
open Go.RowKit Sx Num Aff Afi Img Imh Rga Blend Ble Lsg Lta Lrd Lri Luc
set_option maxRecDepth 100000
def okAt (s:ByteArray) (i:Nat):Prop:=(97<=ap0 s i/\ap0 s i<=122)\/(i≠0/\(ap0 s i=45\/(48<=ap0 s i/\ap0 s i<=57)))
instance (s:ByteArray) (i:Nat):Decidable (okAt s i):=inferInstanceAs (Decidable (_\/_))
def isNm (s:ByteArray):Prop:=(1<=s.size/\s.size<=16)/\∀ i,i<s.size->okAt s i
instance (s:ByteArray):Decidable (isNm s):=inferInstanceAs (Decidable (_/\_))
def nmI (s:ByteArray):Inv:=⟨Nat,fun i=>i<=s.size/\∀ j,j<i->okAt s j,fun i=>⟨[(0,.str s),(15,.int .i64 s.size),(16,.int .i64 i)],[]⟩,fun i=>s.size-i⟩
def spName:FSpec:=aa5 18 (γ:=ByteArray) (fun | [.str s]=>some s | _=>none) (fun s=>[.str s]) (fun _=>True) (fun s=> .bool (decide (isNm s)))
theorem ok_name:aa2 Tryz.prog spName:=by
 refine aa1 (specs:=[]) (aa9 trivial) (eqs:=[]) (fun _ _ h=>(List.not_mem_nil h).elim) Aff.mixed Tryz.func18 rfl (by kernel_rfl) (fun _ _=>by kernel_rfl) (fun g=>(⟨[(4,.inv (nmI g))],[]⟩:Ann)) (fun g=>Nat.le_of_ble_eq_true (by kernel_rfl)) ?_
 rintro s _
 refine ab5 (B:=let T3:=fun p:Prop=>True/\True/\True/\p;let T4:=fun p:Prop=>True/\True/\True/\True/\p;let K:=Sx.Br;let A:=Sx.Ask;let z6:=(↑s.size:Int);let z4:=(IntKind.i64=IntKind.i64);let z3:=(false=decide (isNm s));let z7:=(T4 (A z3));let z1:=(A z4/\A (z6=z6));T4 (True/\K (decide (z6<(1:Int))) (T3 (A z3)) (T4 (K (decide ((16:Int)<z6)) (True/\True/\A z3) (T3 ((∃ g:Nat,A ((nmI s).pre g)/\(A (s=s)/\z1/\(A z4/\A ((0:Int)=(↑g:Int)))/\True)/\True)/\∀ g:Nat,let z5:=(↑g:Int);let z2:=((-9223372036854775808:Int)<=z5+(1:Int)/\z5+(1:Int)<=(9223372036854775807:Int));let z0:=(T3 (K (decide (ap0 s z5.toNat≠(45:Int))) (T3 (K (decide (ap0 s z5.toNat<(48:Int))) (T4 (True/\True/\A z3)) (T4 (True/\True/\K (decide ((57:Int)<ap0 s z5.toNat)) (True/\True/\A z3) (A z2/\True/\∃ (g':Nat),A ((nmI s).pre g')/\((A (s=s)/\z1/\(A z4/\A (z5+(1:Int)=(↑g':Int)))/\True)/\True)/\A ((nmI s).meas g'<(nmI s).meas g)))))) (T3 (A z2/\True/\∃ (g':Nat),A ((nmI s).pre g')/\((A (s=s)/\z1/\(A z4/\A (z5+(1:Int)=(↑g':Int)))/\True)/\True)/\A ((nmI s).meas g'<(nmI s).meas g))))); (nmI s).pre g->True/\K (decide (z5<z6)) (T4 (A ((0:Int)<=z5/\z5<z6)/\T4 (K (decide ((97:Int)<=ap0 s z5.toNat)) (T4 (T3 (K (!decide (ap0 s z5.toNat<=(122:Int))) (T3 (K (decide (z5=(0:Int))) z7 z0)) (True/\A z2/\True/\∃ (g':Nat),A ((nmI s).pre g')/\((A (s=s)/\z1/\(A z4/\A (z5+(1:Int)=(↑g':Int)))/\True)/\True)/\A ((nmI s).meas g'<(nmI s).meas g))))) (T4 (T4 (K (decide (z5=(0:Int))) z7 z0)))))) (True/\True/\A (true=decide (isNm s))))))))) (by kernel_rfl) ?_
 simp only [aa4,aa8,eq_self,true_and,and_true,implies_true,forall_const,decide_eq_true_eq,decide_eq_false_iff_not,ne_eq,Nat.mul_one,Nat.add_zero,Nat.zero_add]
 simp only [Int.toNat_natCast,Bool.not_eq_true',Bool.not_eq_false',decide_eq_false_iff_not,decide_eq_true_eq]
 refine ⟨fun h=>(decide_eq_false fun hn=>by have:=hn.1.1; omega).symm,fun h1=>⟨fun h=>(decide_eq_false fun hn=>by have:=hn.1.2; omega).symm,fun h2=>⟨⟨0,⟨Nat.zero_le _,fun j hj=>absurd hj (Nat.not_lt_zero _)⟩,rfl⟩,fun q hq=>⟨fun hlt=>?_,fun hge=>?_⟩⟩⟩⟩
 ·obtain ⟨q1,q2⟩:q<=s.size/\∀ j,j<q->okAt s j:=hq
  have hlt:q<s.size:=by omega
  have bad:¬ okAt s q->false=decide (isNm s):=fun h=>(decide_eq_false fun hn=>h (hn.2 q hlt)).symm
  have step:okAt s q->(-9223372036854775808<=(q:Int)+1/\(q:Int)+1<=9223372036854775807)/\∃ g':Nat,(nmI s).pre g'/\(q:Int)+1=(g':Int)/\(nmI s).meas g'<(nmI s).meas q:=fun h=>
   ⟨by omega,q+1,⟨hlt,fun j hj=>by
    by_cases e:j=q
    ·subst e; exact h
    ·exact q2 j (by omega)⟩,by simp,(show s.size-(q+1)<s.size-q by omega)⟩
  unfold okAt at bad step
  exact ⟨by omega,⟨fun h97=>⟨fun h122=>⟨fun hz=>bad (by omega),fun hz=>⟨fun h45=>⟨fun h48=>bad (by omega),fun h48=>⟨fun h57=>bad (by omega),fun h57=>step (by omega)⟩⟩,fun h45=>step (by omega)⟩⟩,fun h122=>step (by omega)⟩,
   fun h97=>⟨fun hz=>bad (by omega),fun hz=>⟨fun h45=>⟨fun h48=>bad (by omega),fun h48=>⟨fun h57=>bad (by omega),fun h57=>step (by omega)⟩⟩,fun h45=>step (by omega)⟩⟩⟩⟩
 ·obtain ⟨q1,q2⟩:q<=s.size/\∀ j,j<q->okAt s j:=hq
  have:q=s.size:=by omega
  subst this
  exact (decide_eq_true ⟨by omega,q2⟩).symm
def fstE (e:Nat->Int):Nat->Nat->Int
 | 0,_=>0
 | m+1,k=>if e k=0 then fstE e m (k+1) else e k
theorem ay1 {e:Nat->Int}{n i:Nat}(h:i<n):fstE e (n-i) i=if e i=0 then fstE e (n-(i+1)) (i+1) else e i:=by
 rw [show n-i=(n-(i+1))+1 by omega]; rfl
theorem ay0 {e:Nat->Int}:∀ m k,fstE e m k=0->∀ j,k<=j->j<k+m->e j=0
 | 0,k,_,j,h1,h2=>by omega
 | m+1,k,h,j,h1,h2=>by
  unfold fstE at h
  split at h
  ·rename_i h0
   by_cases hj:j=k
   ·subst hj; exact h0
   ·exact ay0 m (k+1) h j (by omega) (by omega)
  ·rename_i h0; exact absurd h h0
theorem nd_t {A B:Prop} [Decidable A] [Decidable B]:((!(decide A&&decide B))=true)=¬ (A/\B):=by
 by_cases hA:A<;>by_cases hB:B<;>simp [hA,hB]
theorem nd_f {A B:Prop} [Decidable A] [Decidable B]:((!(decide A&&decide B))=false)=(A/\B):=by
 by_cases hA:A<;>by_cases hB:B<;>simp [hA,hB]
def rgE (f:Nat->Rn) (i:Nat):Int:=
 if ¬ ((-8192<=(f i).y/\(f i).y<8192)/\(-8192<=(f i).x0/\(f i).x0<=8192)/\ -8192<=(f i).x1/\(f i).x1<=8192) then 3 else if (f i).x1<=(f i).x0 then 4
 else if i≠0/\(f i).y<=(f (i-1)).y/\((f i).y<(f (i-1)).y\/(f i).x0<=(f (i-1)).x1) then 18 else 0
def ai3 (g:Rg):Int:=fstE (rgE g.f) g.n 0
def rcI (g:Rg):Inv:=⟨Nat,fun i=>i<=g.n/\ai3 g=fstE (rgE g.f) (g.n-i) i,fun i=>⟨[(0,rgS g),(5,rgS g),(6,.int .i64 g.n),(7,.int .i64 i)],[]⟩,fun i=>g.n-i⟩
def a07:FSpec:=aa5 24 (γ:=Rg) (fun | [s]=>some ⟨aj0 s,rgD s⟩ | _=>none) (fun g=>[rgS g]) (fun g=>g.n<=9223372036854775807) (fun g=> .int .i64 (ai3 g))
theorem ok_rgChk:aa2 Tryz.prog a07:=by
 refine aa1 (specs:=[av0,aQ3]) (aa9 (⟨aB9,aW7,trivial⟩)) (eqs:=[]) (fun _ _ h=>(List.not_mem_nil h).elim) Aff.mixed Tryz.func24 rfl (by kernel_rfl) (fun _ _=>by kernel_rfl) (fun g=>(⟨[(2,.inv (rcI g))],[]⟩:Ann)) (fun g=>Nat.le_of_ble_eq_true (by kernel_rfl)) ?_
 rintro g hg
 refine ab5 (B:=let T4:=fun p:Prop=>True/\True/\True/\True/\p;let T5:=fun p:Prop=>True/\True/\True/\True/\True/\p;let K:=Sx.Br;let A:=Sx.Ask;let z11:=(↑g.n:Int);let z9:=((3:Int)=ai3 g);let z8:=(1:Int);let z1:=(IntKind.i64=IntKind.i64);let q1:=fun p:Int=>A z1/\A (p=p);let z6:=(q1 z11);let z0:=(A (g.n=g.n)/\∀ i:Nat,i<g.n->((True/\q1 ((g.f i).y))/\q1 ((g.f i).x0))/\q1 ((g.f i).x1));T4 ((∃ g_1:Nat,A ((rcI g).pre g_1)/\(z0/\z0/\z6/\(A z1/\A ((0:Int)=(↑g_1:Int)))/\True)/\True)/\∀ g_1:Nat,let z2:=(↑g_1:Int);let z10:=(g.f (z2-z8).toNat);let z7:=((0:Int)<=z2-z8/\z2-z8<z11);let z5:=(g.f z2.toNat);let z4:=((-9223372036854775808:Int)<=z2+z8/\z2+z8<=(9223372036854775807:Int));let z3:=((-9223372036854775808:Int)<=z2-z8/\z2-z8<=(9223372036854775807:Int)); (rcI g).pre g_1->True/\K (decide (z2<z11)) (True/\A ((0:Int)<=z2/\z2<z11)/\T5 (True/\(((q1 z5.y)/\True)/\A True)/\True/\True/\K (!(decide ((-8192:Int)<=z5.y)&&decide (z5.y<(8192:Int)))) (T5 (A z1/\A z9)) (True/\True/\(((q1 z5.x0)/\True)/\A True)/\True/\True/\True/\K (!(decide ((-8192:Int)<=z5.x0)&&decide (z5.x0<=(8192:Int)))) (True/\True/\True/\A z1/\A z9) (True/\True/\(((q1 z5.x1)/\True)/\A True)/\True/\True/\K (!(decide ((-8192:Int)<=z5.x1)&&decide (z5.x1<=(8192:Int)))) (True/\True/\A z1/\A z9) (T5 (K (decide (z5.x1<=z5.x0)) (True/\True/\A z1/\A ((4:Int)=ai3 g)) (True/\True/\True/\K (decide ((0:Int)<z2)) (T4 (A z3/\A z7/\T5 (K (decide (z5.y<=z10.y)) (T4 (A z3/\A z7/\T4 (K (decide (z5.y<z10.y)) (T4 (A z1/\A ((18:Int)=ai3 g))) (T4 (A z3/\A z7/\T5 (K (decide (z5.x0<=z10.x1)) (True/\True/\A z1/\A ((18:Int)=ai3 g)) (A z4/\True/\∃ (g':Nat),A ((rcI g).pre g')/\((z0/\z0/\z6/\(A z1/\A (z2+z8=(↑g':Int)))/\True)/\True)/\A ((rcI g).meas g'<(rcI g).meas g_1)))))))) (True/\A z4/\True/\∃ (g':Nat),A ((rcI g).pre g')/\((z0/\z0/\z6/\(A z1/\A (z2+z8=(↑g':Int)))/\True)/\True)/\A ((rcI g).meas g'<(rcI g).meas g_1))))) (True/\True/\True/\A z4/\True/\∃ (g':Nat),A ((rcI g).pre g')/\((z0/\z0/\z6/\(A z1/\A (z2+z8=(↑g':Int)))/\True)/\True)/\A ((rcI g).meas g'<(rcI g).meas g_1))))))))) (True/\True/\A z1/\A ((0:Int)=ai3 g)))) (by kernel_rfl) ?_
 simp only [aa4,aa8,eq_self,true_and,and_true,implies_true,forall_const,decide_eq_true_eq,decide_eq_false_iff_not,ne_eq,Nat.mul_one,Nat.add_zero,Nat.zero_add]
 simp only [Int.toNat_natCast,nd_t,nd_f]
 refine ⟨⟨0,⟨Nat.zero_le _,rfl⟩,rfl⟩,fun q hq=>⟨fun hlt=>?_,fun hge=>?_⟩⟩
 ·obtain ⟨q1,q2⟩:q<=g.n/\ai3 g=fstE (rgE g.f) (g.n-q) q:=hq
  have hlt:q<g.n:=by omega
  rw [ay1 hlt] at q2
  have bad:∀ v:Int,rgE g.f q=v->v≠0->v=ai3 g:=fun v h hv=>by rw [q2,if_neg (by rw [h]; exact hv),h]
  have step:rgE g.f q=0->(-9223372036854775808<=(q:Int)+1/\(q:Int)+1<=9223372036854775807)/\∃ g':Nat,(rcI g).pre g'/\(q:Int)+1=(g':Int)/\(rcI g).meas g'<(rcI g).meas q:=fun h=>
   ⟨by omega,q+1,⟨hlt,by rw [q2,if_pos h]⟩,by simp,(show g.n-(q+1)<g.n-q by omega)⟩
  unfold rgE at bad step
  refine ⟨by omega,fun h=>bad 3 (if_pos (by omega)) (by decide),fun ha=>⟨fun h=>bad 3 (if_pos (by omega)) (by decide),fun hb=>⟨fun h=>bad 3 (if_pos (by omega)) (by decide),fun hc=>⟨fun h=>bad 4 (by rw [if_neg (by omega),if_pos h]) (by decide),fun hd=>⟨fun h0=>?_,fun h0=>step (by rw [if_neg (by omega),if_neg hd,if_neg (by omega)])⟩⟩⟩⟩⟩
  have e2:((q:Int)-1).toNat=q-1:=by omega
  rw [e2]
  have b1 : -9223372036854775808<=(q:Int)-1/\(q:Int)-1<=9223372036854775807:=by clear bad step; omega
  have b2:0<=(q:Int)-1/\(q:Int)-1<(g.n:Int):=by clear bad step; omega
  exact ⟨b1,b2,fun hy=>⟨b1,b2,fun hy2=>bad 18 (by rw [if_neg (by omega),if_neg hd,if_pos (by omega)]) (by decide),fun hy2=>⟨b1,b2,fun hx=>bad 18 (by rw [if_neg (by omega),if_neg hd,if_pos (by omega)]) (by decide),fun hx=>step (by rw [if_neg (by omega),if_neg hd,if_neg (by omega)])⟩⟩,fun hy=>step (by rw [if_neg (by omega),if_neg hd,if_neg (by omega)])⟩
 ·obtain ⟨q1,q2⟩:q<=g.n/\ai3 g=fstE (rgE g.f) (g.n-q) q:=hq
  have:q=g.n:=by omega
  subst this
  rw [Nat.sub_self] at q2
  exact q2.symm
theorem rg_at {g:Rg}(h:ai3 g=0) {i:Nat}(hi:i<g.n):((-8192<=(g.f i).y/\(g.f i).y<8192)/\(-8192<=(g.f i).x0/\(g.f i).x0<=8192)/\ -8192<=(g.f i).x1/\(g.f i).x1<=8192)/\(g.f i).x0<(g.f i).x1/\(i≠0->(g.f (i-1)).y<(g.f i).y\/((g.f (i-1)).y=(g.f i).y/\(g.f (i-1)).x1<(g.f i).x0)):=by
 have h0:=ay0 g.n 0 h i (Nat.zero_le _) (by omega)
 unfold rgE at h0
 split at h0
 ·omega
 rename_i c1
 split at h0
 ·omega
 rename_i c2
 split at h0
 ·omega
 rename_i c3
 exact ⟨Classical.not_not.1 c1,by omega,fun hz=>by omega⟩
theorem rg_key {g:Rg}(h:ai3 g=0):∀ i,i<g.n->(i:Int)<=((g.f i).y+8192)*32768+((g.f i).x0+8192)
 | 0,hi=>by have:=rg_at h hi; omega
 | i+1,hi=>by
  have h1:=rg_key h i (by omega)
  have h2:=(rg_at h (i:=i) (by omega))
  have h3:=(rg_at h hi)
  have h4:=h3.2.2 (by omega)
  rw [show i+1-1=i by omega] at h4
  omega
theorem vr_of {g:Rg}(h:ai3 g=0):Vr g.n g.f:=by
 refine ⟨?_,fun i hi=>(rg_at h hi).2.1,fun i hi=>?_⟩
 ·by_cases h0:g.n=0
  ·omega
  ·have h1:=rg_key h (g.n-1) (by omega)
   have h2:=rg_at h (i:=g.n-1) (by omega)
   omega
 ·have:=(rg_at h hi).2.2 (by omega)
  rwa [show i+1-1=i by omega] at this
structure SpG where
 n:Nat
 st:Nat->Stp
def spE (f:Nat->Stp) (i:Nat):Int:=if (f i).pos<0\/65536<(f i).pos then 3 else if i≠0/\(f i).pos<(f (i-1)).pos then 18 else 0
def ap7 (g:SpG):Int:=if g.n<1\/16<g.n then 2 else fstE (spE g.st) g.n 0
def spsS (g:SpG):SV:= .sl g.n 9 (fun i=>lst (stpL (g.st i)))
def scI (g:SpG):Inv:=⟨Nat,fun i=>i<=g.n/\ap7 g=fstE (spE g.st) (g.n-i) i,fun i=>⟨[(0,spsS g),(13,spsS g),(14,.int .i64 g.n),(15,.int .i64 i)],[]⟩,fun i=>g.n-i⟩
def spStops:FSpec:=aa5 75 (γ:=SpG) (fun | [s]=>some ⟨aj0 s,stpD s⟩ | _=>none) (fun g=>[spsS g]) (fun _=>True) (fun g=> .int .i64 (ap7 g))
theorem ok_stops:aa2 Tryz.prog spStops:=by
 refine aa1 (specs:=[]) (aa9 trivial) (eqs:=[]) (fun _ _ h=>(List.not_mem_nil h).elim) Aff.mixed Tryz.func75 rfl (by kernel_rfl) (fun _ _=>by kernel_rfl) (fun g=>(⟨[(4,.inv (scI g))],[]⟩:Ann)) (fun g=>Nat.le_of_ble_eq_true (by kernel_rfl)) ?_
 rintro g _
 refine ab5 (B:=let T4:=fun p:Prop=>True/\True/\True/\True/\p;let K:=Sx.Br;let A:=Sx.Ask;let z6:=(1:Int);let z5:=(↑g.n:Int);let z1:=(IntKind.i64=IntKind.i64);let z3:=(A z1/\A (z5=z5));let z0:=(A (g.n=g.n)/\∀ i:Nat,i<g.n->(Lsg.qI (True/\A z1/\A ((g.st i).pos=(g.st i).pos)) ((g.st i).ink) ((g.st i).ink)));T4 (True/\K (decide (z5<z6)) (True/\True/\True/\A z1/\A ((2:Int)=ap7 g)) (T4 (K (decide ((16:Int)<z5)) (True/\True/\A z1/\A ((2:Int)=ap7 g)) (True/\True/\True/\(∃ g_1:Nat,A ((scI g).pre g_1)/\(z0/\z0/\z3/\(A z1/\A ((0:Int)=(↑g_1:Int)))/\True)/\True)/\∀ g_1:Nat,let z2:=(↑g_1:Int);let z4:=((-9223372036854775808:Int)<=z2+z6/\z2+z6<=(9223372036854775807:Int)); (scI g).pre g_1->True/\K (decide (z2<z5)) (True/\A ((0:Int)<=z2/\z2<z5)/\T4 (T4 (K (decide ((g.st z2.toNat).pos<(0:Int))) (True/\True/\True/\A z1/\A ((3:Int)=ap7 g)) (T4 (K (decide ((65536:Int)<(g.st z2.toNat).pos)) (True/\True/\A z1/\A ((3:Int)=ap7 g)) (True/\True/\True/\K (decide ((0:Int)<z2)) (T4 (A ((-9223372036854775808:Int)<=z2-z6/\z2-z6<=(9223372036854775807:Int))/\A ((0:Int)<=z2-z6/\z2-z6<z5)/\T4 (K (decide ((g.st z2.toNat).pos<(g.st (z2-z6).toNat).pos)) (True/\True/\A z1/\A ((18:Int)=ap7 g)) (A z4/\True/\∃ (g':Nat),A ((scI g).pre g')/\((z0/\z0/\z3/\(A z1/\A (z2+z6=(↑g':Int)))/\True)/\True)/\A ((scI g).meas g'<(scI g).meas g_1))))) (True/\A z4/\True/\∃ (g':Nat),A ((scI g).pre g')/\((z0/\z0/\z3/\(A z1/\A (z2+z6=(↑g':Int)))/\True)/\True)/\A ((scI g).meas g'<(scI g).meas g_1)))))))) (True/\True/\A z1/\A ((0:Int)=ap7 g))))))) (by kernel_rfl) ?_
 delta Lsg.qI
 simp only [aa4,aa8,eq_self,true_and,and_true,implies_true,forall_const,decide_eq_true_eq,decide_eq_false_iff_not,ne_eq,Nat.mul_one,Nat.add_zero,Nat.zero_add]
 simp only [Int.toNat_natCast]
 refine ⟨fun h=>(if_pos (.inl (by omega))).symm,fun h1=>⟨fun h=>(if_pos (.inr (by omega))).symm,fun h2=>?_⟩⟩
 have h0:ap7 g=fstE (spE g.st) g.n 0:=if_neg (by omega)
 refine ⟨⟨0,⟨Nat.zero_le _,h0⟩,rfl⟩,fun q hq=>⟨fun hlt=>?_,fun hge=>?_⟩⟩
 ·obtain ⟨q1,q2⟩:q<=g.n/\ap7 g=fstE (spE g.st) (g.n-q) q:=hq
  have hlt:q<g.n:=by omega
  rw [ay1 hlt] at q2
  have bad:∀ v:Int,spE g.st q=v->v≠0->v=ap7 g:=fun v h hv=>by rw [q2,if_neg (by rw [h]; exact hv),h]
  have step:spE g.st q=0->(-9223372036854775808<=(q:Int)+1/\(q:Int)+1<=9223372036854775807)/\∃ g':Nat,(scI g).pre g'/\(q:Int)+1=(g':Int)/\(scI g).meas g'<(scI g).meas q:=fun h=>
   ⟨by omega,q+1,⟨hlt,by rw [q2,if_pos h]⟩,by simp,(show g.n-(q+1)<g.n-q by omega)⟩
  unfold spE at bad step
  refine ⟨by omega,fun h=>bad 3 (if_pos (.inl h)) (by decide),fun ha=>⟨fun h=>bad 3 (if_pos (.inr h)) (by decide),fun hb=>⟨fun hp=>?_,fun hp=>step (by rw [if_neg (by omega),if_neg (by omega)])⟩⟩⟩
  have e2:((q:Int)-1).toNat=q-1:=by omega
  rw [e2]
  exact ⟨by clear bad step; omega,by clear bad step; omega,fun hx=>bad 18 (by rw [if_neg (by omega),if_pos (by omega)]) (by decide),fun hx=>step (by rw [if_neg (by omega),if_neg (by omega)])⟩
 ·obtain ⟨q1,q2⟩:q<=g.n/\ap7 g=fstE (spE g.st) (g.n-q) q:=hq
  have:q=g.n:=by omega
  subst this
  rw [Nat.sub_self] at q2
  exact q2.symm
abbrev eqP:List (TypeId×List CK):=[(39,[.int,.int]),(44,[.int,.int,.int,.int,.int,.int]),(28,[.int,.int,.int,.int,.int,.int,.int,.int])]
theorem aO6:AllEq Tryz.prog eqP:=⟨aB2 (m:=2) (by kernel_rfl) (by kernel_rfl) rfl (by decide) (by kernel_rfl),aB2 (m:=6) (by kernel_rfl) (by kernel_rfl) rfl (by decide) (by kernel_rfl),aB2 (m:=8) (by kernel_rfl) (by kernel_rfl) rfl (by decide) (by kernel_rfl),trivial⟩
theorem fd {p:Prop} [Decidable p]:(false=decide p)=¬ p:=by by_cases h:p<;>simp [h]
theorem dd {a p:Prop} [Decidable a] [Decidable p]:(decide a=decide p)=(a<->p):=by by_cases h:a<;>by_cases k:p<;>simp [h,k]
def isZ (s:Src):Prop:=(s.fx=0/\s.fy=0)/\(s.tx=0/\s.ty=0)/\s.rad=0/\s.ns=0
instance (s:Src):Decidable (isZ s):=inferInstanceAs (Decidable (_/\_))
def spZero:FSpec:=aa5 50 (γ:=Src) (fun | [.agg _ g]=>some (srcD g) | _=>none) (fun s=>[srcS s]) (fun _=>True) (fun s=> .bool (decide (isZ s)))
theorem ok_zero:aa2 Tryz.prog spZero:=by
 refine aa1 (specs:=[]) (aa9 trivial) (eqs:=eqP) (all_eq aO6) Aff.mixed Tryz.func50 rfl (by kernel_rfl) (fun _ _=>by kernel_rfl) (fun g=>A0) (fun g=>Nat.le_of_ble_eq_true (by kernel_rfl)) ?_
 rintro s _
 refine ab5 (B:=let T7:=fun p:Prop=>True/\True/\True/\True/\True/\True/\True/\p;let A:=Sx.Ask;let z0:=(false=decide (isZ s));T7 (Sx.Br (decide (s.fx=(0:Int))&&(decide (s.fy=(0:Int))&&true)) (True/\True/\True/\True/\True/\True/\Sx.Br (decide (s.tx=(0:Int))&&(decide (s.ty=(0:Int))&&true)) (True/\True/\True/\True/\True/\Sx.Br (decide (s.rad=(0:Int))) (T7 (A (decide ((↑s.ns:Int)=(0:Int))=decide (isZ s)))) (True/\True/\True/\A z0)) (True/\True/\True/\True/\True/\A z0)) (T7 (A z0)))) (by kernel_rfl) ?_
 simp only [aa4,aa8,eq_self,true_and,and_true,implies_true,forall_const,decide_eq_true_eq,decide_eq_false_iff_not,ne_eq,Nat.mul_one,Nat.add_zero,Nat.zero_add]
 simp only [fd,dd,Bool.and_true,Bool.and_eq_true,Bool.and_eq_false_iff,decide_eq_true_eq,decide_eq_false_iff_not,isZ]
 grind
def isNI (g:ImgG):Prop:=(g.w=0/\g.h=0)/\(g.n=0/\g.sn=0)/\(g.m.a=0/\g.m.b=0/\g.m.c=0/\g.m.d=0/\g.m.e=0/\g.m.f=0)/\g.smooth=false/\g.rep=false
instance (g:ImgG):Decidable (isNI g):=inferInstanceAs (Decidable (_/\_))
def a09:FSpec:=aa5 51 (γ:=ImgG) (fun | [.agg _ g]=>some (imgD g) | _=>none) (fun g=>[imgS g]) (fun _=>True) (fun g=> .bool (decide (isNI g)))
theorem ok_noImg:aa2 Tryz.prog a09:=by
 refine aa1 (specs:=[]) (aa9 trivial) (eqs:=eqP) (all_eq aO6) Aff.mixed Tryz.func51 rfl (by kernel_rfl) (fun _ _=>by kernel_rfl) (fun g=>A0) (fun g=>Nat.le_of_ble_eq_true (by kernel_rfl)) ?_
 rintro g _
 refine ab5 (B:=let T5:=fun p:Prop=>True/\True/\True/\True/\True/\p;let T6:=fun p:Prop=>True/\True/\True/\True/\True/\True/\p;let K:=Sx.Br;let A:=Sx.Ask;let z1:=(0:Int);let z0:=(false=decide (isNI g));T6 (K (decide (g.w=z1)) (T5 (K (decide (g.h=z1)) (T6 (K (decide ((↑g.n:Int)=z1)) (T6 (K (decide ((↑g.sn:Int)=z1)) (T6 (K (decide (g.m.a=z1)&&(decide (g.m.b=z1)&&(decide (g.m.c=z1)&&(decide (g.m.d=z1)&&(decide (g.m.e=z1)&&(decide (g.m.f=z1)&&true)))))) (T5 (K (!g.smooth) (T6 (A ((!g.rep)=decide (isNI g)))) (True/\True/\True/\A z0))) (T5 (A z0)))) (T6 (True/\A z0)))) (T6 (True/\True/\True/\A z0)))) (T6 (T5 (A z0))))) (T6 (T6 (True/\A z0))))) (by kernel_rfl) ?_
 simp only [aa4,aa8,eq_self,true_and,and_true,implies_true,forall_const,decide_eq_true_eq,decide_eq_false_iff_not,ne_eq,Nat.mul_one,Nat.add_zero,Nat.zero_add]
 cases hs:g.smooth<;>cases hr:g.rep<;>simp only [fd,dd,Bool.not_true,Bool.not_false,Bool.and_true,Bool.and_eq_true,Bool.and_eq_false_iff,decide_eq_true_eq,decide_eq_false_iff_not,isNI,hs,hr,eq_self,forall_const,and_true,false_implies,implies_true,true_implies,Bool.false_eq_true,reduceCtorEq,and_false,not_false_eq_true,eq_comm (a:=true),decide_eq_true_eq]<;>omega
def noI (k:Ink):Prop:=k.c0=0/\k.c1=0/\k.c2=0/\k.c3=0/\k.c4=0/\k.c5=0/\k.c6=0/\k.c7=0
instance (k:Ink):Decidable (noI k):=inferInstanceAs (Decidable (_/\_))
def isNS (s:Src):Prop:=s.kind=0/\noI s.ink/\isZ s/\isNI s.img
instance (s:Src):Decidable (isNS s):=inferInstanceAs (Decidable (_/\_))
def spNoSrc:FSpec:=aa5 35 (γ:=Src) (fun | [.agg _ g]=>some (srcD g) | _=>none) (fun s=>[srcS s]) (fun _=>True) (fun s=> .bool (decide (isNS s)))
theorem ok_noSrc:aa2 Tryz.prog spNoSrc:=by
 refine aa1 (specs:=[spZero,a09]) (aa9 (⟨ok_zero,ok_noImg,trivial⟩)) (eqs:=eqP) (all_eq aO6) Aff.mixed Tryz.func35 rfl (by kernel_rfl) (fun _ _=>by kernel_rfl) (fun g=>A0) (fun g=>Nat.le_of_ble_eq_true (by kernel_rfl)) ?_
 rintro s _
 refine ab5 (B:=let A:=Sx.Ask;let z1:=(0:Int);let z0:=(false=decide (isNS s));True/\True/\True/\True/\True/\True/\Sx.Br (decide (s.kind=z1)) (True/\True/\True/\True/\True/\True/\Sx.Br (decide (s.ink.c0=z1)&&(decide (s.ink.c1=z1)&&(decide (s.ink.c2=z1)&&(decide (s.ink.c3=z1)&&(decide (s.ink.c4=z1)&&(decide (s.ink.c5=z1)&&(decide (s.ink.c6=z1)&&(decide (s.ink.c7=z1)&&true)))))))) (True/\(((Lsg.qS True s s)/\True)/\A True)/\True/\True/\Sx.Br (decide (isZ s)) (True/\True/\(((Lsg.qG True s.img s.img)/\True)/\A True)/\True/\True/\True/\A (decide (isNI s.img)=decide (isNS s))) (True/\True/\True/\A z0)) (True/\True/\True/\True/\True/\A z0)) (True/\True/\True/\True/\True/\True/\True/\A z0)) (by kernel_rfl) ?_
 delta Lsg.qG Lsg.qI Lsg.qM Lsg.qS
 simp only [aa4,aa8,eq_self,true_and,and_true,implies_true,forall_const,decide_eq_true_eq,decide_eq_false_iff_not,ne_eq,Nat.mul_one,Nat.add_zero,Nat.zero_add]
 simp only [fd,dd,Bool.and_true,Bool.and_eq_true,Bool.and_eq_false_iff,decide_eq_true_eq,decide_eq_false_iff_not,isNS,noI]
 grind
structure WnG where
 n:Nat
 f:Nat->Int
def wnS (g:WnG):SV:= .sl g.n 1 (fun i _=> .int .i64 (g.f i))
def isWn (g:WnG):Prop:=∀ i,i<g.n-> -32767<=g.f i/\g.f i<=32767
instance (g:WnG):Decidable (isWn g):=inferInstanceAs (Decidable (∀ i,i<g.n->_))
def wnI (g:WnG):Inv:=⟨Nat,fun i=>i<=g.n/\∀ j,j<i-> -32767<=g.f j/\g.f j<=32767,fun i=>⟨[(5,wnS g),(6,.int .i64 g.n),(7,.int .i64 i)],[]⟩,fun i=>g.n-i⟩
def spWn:FSpec:=aa5 74 (γ:=WnG) (fun | [s]=>some ⟨aj0 s,slCell 0 s⟩ | _=>none) (fun g=>[wnS g]) (fun g=>g.n<=1000) (fun g=> .bool (decide (isWn g)))
theorem ok_wn:aa2 Tryz.prog spWn:=by
 refine aa1 (specs:=[]) (aa9 trivial) (eqs:=[]) (fun _ _ h=>(List.not_mem_nil h).elim) Aff.mixed Tryz.func74 rfl (by kernel_rfl) (fun _ _=>by kernel_rfl) (fun g=>(⟨[(2,.inv (wnI g))],[]⟩:Ann)) (fun g=>Nat.le_of_ble_eq_true (by kernel_rfl)) ?_
 rintro g hg
 refine ab5 (B:=let A:=Sx.Ask;let z0:=(IntKind.i64=IntKind.i64);let z3:=(A z0/\A ((↑g.n:Int)=(↑g.n:Int)));let z1:=(A (g.n=g.n)/\∀ i:Nat,i<g.n->True/\A z0/\A (g.f i=g.f i));True/\True/\True/\True/\(∃ g_1:Nat,A ((wnI g).pre g_1)/\(z1/\z3/\(A z0/\A ((0:Int)=(↑g_1:Int)))/\True)/\True)/\∀ g_1:Nat,let z2:=(↑g_1:Int); (wnI g).pre g_1->True/\Sx.Br (decide (z2<(↑g.n:Int))) (A ((0:Int)<=z2/\z2<(↑g.n:Int))/\True/\True/\True/\True/\True/\Sx.Br (decide (g.f z2.toNat<(-32767:Int))) (True/\True/\True/\A (false=decide (isWn g))) (True/\True/\True/\Sx.Br (decide ((32767:Int)<g.f z2.toNat)) (True/\True/\A (false=decide (isWn g))) (A ((-9223372036854775808:Int)<=z2+(1:Int)/\z2+(1:Int)<=(9223372036854775807:Int))/\True/\∃ (g':Nat),A ((wnI g).pre g')/\((z1/\z3/\(A z0/\A (z2+(1:Int)=(↑g':Int)))/\True)/\True)/\A ((wnI g).meas g'<(wnI g).meas g_1)))) (True/\True/\A (true=decide (isWn g)))) (by kernel_rfl) ?_
 simp only [aa4,aa8,eq_self,true_and,and_true,implies_true,forall_const,decide_eq_true_eq,decide_eq_false_iff_not,ne_eq,Nat.mul_one,Nat.add_zero,Nat.zero_add]
 simp only [Int.toNat_natCast]
 refine ⟨⟨0,⟨Nat.zero_le _,fun j hj=>absurd hj (Nat.not_lt_zero _)⟩,rfl⟩,fun q hq=>⟨fun hlt=>?_,fun hge=>?_⟩⟩
 ·obtain ⟨q1,q2⟩:q<=g.n/\∀ j,j<q-> -32767<=g.f j/\g.f j<=32767:=hq
  have hlt:q<g.n:=by omega
  have bad:¬ (-32767<=g.f q/\g.f q<=32767)->false=decide (isWn g):=fun h=>(decide_eq_false fun hn=>h (hn q hlt)).symm
  refine ⟨by omega,fun h=>bad (by omega),fun h=>⟨fun h2=>bad (by omega),fun h2=>⟨by omega,q+1,⟨hlt,fun j hj=>?_⟩,by simp,(show g.n-(q+1)<g.n-q by omega)⟩⟩⟩
  by_cases e:j=q
  ·subst e; omega
  ·exact q2 j (by omega)
 ·obtain ⟨q1,q2⟩:q<=g.n/\∀ j,j<q-> -32767<=g.f j/\g.f j<=32767:=hq
  have:q=g.n:=by omega
  subst this
  exact (decide_eq_true (show isWn g from q2)).symm
def spPlain:FSpec:=aa5 73 (γ:=ImgG) (fun | [.agg _ g]=>some (imgD g) | _=>none) (fun g=>[imgS g]) (fun _=>True) (fun g=> .bool (decide (isNI g)))
theorem ok_plain:aa2 Tryz.prog spPlain:=by
 refine aa1 (specs:=[]) (aa9 trivial) (eqs:=eqP) (all_eq aO6) Aff.mixed Tryz.func73 rfl (by kernel_rfl) (fun _ _=>by kernel_rfl) (fun g=>A0) (fun g=>Nat.le_of_ble_eq_true (by kernel_rfl)) ?_
 rintro g _
 refine ab5 (B:=let T5:=fun p:Prop=>True/\True/\True/\True/\True/\p;let T6:=fun p:Prop=>True/\True/\True/\True/\True/\True/\p;let K:=Sx.Br;let A:=Sx.Ask;let z1:=(0:Int);let z0:=(false=decide (isNI g));T6 (K (decide (g.w=z1)) (T5 (K (decide (g.h=z1)) (T6 (K (decide ((↑g.n:Int)=z1)) (T6 (K (decide ((↑g.sn:Int)=z1)) (T6 (K (decide (g.m.a=z1)&&(decide (g.m.b=z1)&&(decide (g.m.c=z1)&&(decide (g.m.d=z1)&&(decide (g.m.e=z1)&&(decide (g.m.f=z1)&&true)))))) (T5 (K (!g.smooth) (T6 (A ((!g.rep)=decide (isNI g)))) (True/\True/\True/\A z0))) (T5 (A z0)))) (T6 (True/\A z0)))) (T6 (True/\True/\True/\A z0)))) (T6 (T5 (A z0))))) (T6 (T6 (True/\A z0))))) (by kernel_rfl) ?_
 simp only [aa4,aa8,eq_self,true_and,and_true,implies_true,forall_const,decide_eq_true_eq,decide_eq_false_iff_not,ne_eq,Nat.mul_one,Nat.add_zero,Nat.zero_add]
 cases hs:g.smooth<;>cases hr:g.rep<;>simp only [fd,dd,Bool.not_true,Bool.not_false,Bool.and_true,Bool.and_eq_true,Bool.and_eq_false_iff,decide_eq_true_eq,decide_eq_false_iff_not,isNI,hs,hr,eq_self,forall_const,and_true,false_implies,implies_true,true_implies,Bool.false_eq_true,reduceCtorEq,and_false,not_false_eq_true,eq_comm (a:=true),decide_eq_true_eq]<;>omega
end Go.Proofs.YthappngbapbkfaaGreat.Lck
set_option linter.unusedSimpArgs false
set_option linter.unusedVariables false
namespace Go.Proofs.YthappngbapbkfaaGreat.Lgr
open Go.RowKit Sx Num Aff Afi Img Imh Rga Blend Ble Lsg Lta Lrd Lri Luc Lck
set_option maxRecDepth 100000
def grE (s:Src):Int:=
 if s.kind≠1/\s.kind≠2 then 14
 else if ¬ noI s.ink\/¬ isNI s.img\/(s.kind=1/\s.rad≠0)\/(s.kind≠1/\¬ (s.tx=0/\s.ty=0)) then 4
 else if ¬ ((-32767<=s.fx/\s.fx<=32767)/\(-32767<=s.fy/\s.fy<=32767)/\(-32767<=s.tx/\s.tx<=32767)/\ -32767<=s.ty/\s.ty<=32767) then 3
 else if s.kind=1/\s.fx=s.tx/\s.fy=s.ty then 1
 else if s.kind≠1/\(s.rad<1\/32767<s.rad) then 3 else ap7 ⟨s.ns,s.st⟩
def spGrad:FSpec:=aa5 53 (γ:=Src) (fun | [.agg _ g]=>some (srcD g) | _=>none) (fun s=>[srcS s]) (fun _=>True) (fun s=> .int .i64 (grE s))
theorem wn4 (a b c d:Int):isWn ⟨4,fun i=>bif decide (i=3) then d else bif decide (i=2) then c else bif decide (i=1) then b else a⟩<->((-32767<=a/\a<=32767)/\(-32767<=b/\b<=32767)/\(-32767<=c/\c<=32767)/\ -32767<=d/\d<=32767):=by
 refine ⟨fun h=>⟨h 0 (show (0:Nat)<4 by decide),h 1 (show (1:Nat)<4 by decide),h 2 (show (2:Nat)<4 by decide),h 3 (show (3:Nat)<4 by decide)⟩,fun ⟨h0,h1,h2,h3⟩ i hi=>?_⟩
 have hi:i<4:=hi
 match i,hi with
 | 0,_=>exact h0
 | 1,_=>exact h1
 | 2,_=>exact h2
 | 3,_=>exact h3
theorem ok_grad:aa2 Tryz.prog spGrad:=by
 refine aa1 (specs:=[spPlain,giv spWn,spStops]) (aa9 (⟨ok_plain,giv_ok ok_wn,ok_stops,trivial⟩)) (eqs:=Lck.eqP) (all_eq Lck.aO6) Aff.mixed Tryz.func53 rfl (by kernel_rfl) (fun _ _=>by kernel_rfl) (fun g=>A0) (fun g=>Nat.le_of_ble_eq_true (by kernel_rfl)) ?_
 rintro s _
 refine ab5 (B:=let T2:=fun p:Prop=>True/\True/\p;let T5:=fun p:Prop=>True/\True/\True/\True/\True/\p;let T6:=fun p:Prop=>True/\True/\True/\True/\True/\True/\p;let K:=Sx.Br;let A:=Sx.Ask;let z17:=(s.kind=(1:Int));let z16:=(Lck.ap7 (Lck.SpG.mk s.ns s.st)=grE s);let z15:=((4:Int)=grE s);let z14:=(0:Int);let z11:=(!decide z17);let z9:=(!decide (Lck.isWn (Lck.WnG.mk (4:Nat) fun (i:Nat)=>bif decide (i=(3:Nat)) then s.ty else bif decide (i=(2:Nat)) then s.tx else bif decide (i=(1:Nat)) then s.fy else s.fx)));let z8:=(!(decide (s.ink.c0=z14)&&(decide (s.ink.c1=z14)&&(decide (s.ink.c2=z14)&&(decide (s.ink.c3=z14)&&(decide (s.ink.c4=z14)&&(decide (s.ink.c5=z14)&&(decide (s.ink.c6=z14)&&(decide (s.ink.c7=z14)&&true)))))))));let z5:=(IntKind.i64=IntKind.i64);let z13:=(T6 (True/\A z5/\A z15));let z12:=(T2 (A z5/\A ((3:Int)=grE s)));let z7:=(((A (s.ns=s.ns)/\∀ i:Nat,i<s.ns->(Lsg.qI (True/\A z5/\A ((s.st i).pos=(s.st i).pos)) ((s.st i).ink) ((s.st i).ink)))/\True)/\A True);let z10:=(T2 (T2 (z7/\T2 (A z5/\A z16))));let z3:=(T2 (T2 (K (decide (s.rad<(1:Int))) (T5 (A z5/\A ((3:Int)=grE s))) (T6 (K (decide ((32767:Int)<s.rad)) z12 (T2 (z7/\T2 (A z5/\A z16))))))));let z2:=(((A ((4:Nat)=(4:Nat))/\∀ i:Nat,i<(4:Nat)->True/\A z5/\A ((bif decide (i=(3:Nat)) then s.ty else bif decide (i=(2:Nat)) then s.tx else bif decide (i=(1:Nat)) then s.fy else s.fx)=bif decide (i=(3:Nat)) then s.ty else bif decide (i=(2:Nat)) then s.tx else bif decide (i=(1:Nat)) then s.fy else s.fx))/\True)/\A ((4:Nat)<=(1000:Nat)));let z0:=(T2 (K (decide z17) (T6 (True/\K (decide (s.fx=s.tx)&&(decide (s.fy=s.ty)&&true)) (T2 (A z5/\A ((1:Int)=grE s))) (T2 (True/\K z11 z3 z10)))) (T5 (K z11 z3 z10))));let z6:=(T6 (T6 (T2 (True/\z2/\T2 (K z9 z12 z0)))));let z4:=(T6 (K (!(decide (s.tx=z14)&&(decide (s.ty=z14)&&true))) (T2 (A z5/\A z15)) (T6 (T6 (True/\z2/\T2 (K z9 z12 z0))))));let z1:=(T2 ((((Lsg.qG True s.img s.img)/\True)/\A True)/\T2 (True/\K (!decide (Lck.isNI s.img)) (T5 (A z5/\A z15)) (T2 (K (decide z17) (T6 (K (decide (s.rad≠z14)) (T2 (True/\A z5/\A z15)) (T2 (True/\K z11 z4 z6)))) (T6 (K z11 z4 z6)))))));T6 (T2 (True/\K z11 (T2 (T2 (K (decide (s.kind≠(2:Int))) (T2 (A z5/\A ((14:Int)=grE s))) (T5 (K z8 z13 z1))))) (T6 (K z8 z13 z1))))) (by kernel_rfl) ?_
 delta Lsg.qG Lsg.qI Lsg.qM
 simp only [aa4,aa8,eq_self,true_and,and_true,implies_true,forall_const,decide_eq_true_eq,decide_eq_false_iff_not,ne_eq,Nat.mul_one,Nat.add_zero,Nat.zero_add]
 simp only [wn4,Bool.and_true,Bool.not_eq_true',Bool.not_eq_false',Bool.and_eq_true,Bool.and_eq_false_iff,decide_eq_true_eq,decide_eq_false_iff_not]
 have e14:(s.kind≠1/\s.kind≠2)->14=grE s:=fun h=>by unfold grE; rw [if_pos h]
 have e4:¬ (s.kind≠1/\s.kind≠2)->(¬ noI s.ink\/¬ isNI s.img\/(s.kind=1/\s.rad≠0)\/(s.kind≠1/\¬ (s.tx=0/\s.ty=0)))->4=grE s:=fun h h2=>by unfold grE; rw [if_neg h,if_pos h2]
 have e3:¬ (s.kind≠1/\s.kind≠2)->¬ (¬ noI s.ink\/¬ isNI s.img\/(s.kind=1/\s.rad≠0)\/(s.kind≠1/\¬ (s.tx=0/\s.ty=0)))->¬ ((-32767<=s.fx/\s.fx<=32767)/\(-32767<=s.fy/\s.fy<=32767)/\(-32767<=s.tx/\s.tx<=32767)/\ -32767<=s.ty/\s.ty<=32767)->3=grE s:=fun h h2 h3=>by
  unfold grE; rw [if_neg h,if_neg h2,if_pos h3]
 have rest:¬ (s.kind≠1/\s.kind≠2)->¬ (¬ noI s.ink\/¬ isNI s.img\/(s.kind=1/\s.rad≠0)\/(s.kind≠1/\¬ (s.tx=0/\s.ty=0)))->¬ ¬ ((-32767<=s.fx/\s.fx<=32767)/\(-32767<=s.fy/\s.fy<=32767)/\(-32767<=s.tx/\s.tx<=32767)/\ -32767<=s.ty/\s.ty<=32767)->
   ((s.kind=1/\s.fx=s.tx/\s.fy=s.ty)->1=grE s)/\(¬ (s.kind=1/\s.fx=s.tx/\s.fy=s.ty)->((s.kind≠1/\(s.rad<1\/32767<s.rad))->3=grE s)/\(¬ (s.kind≠1/\(s.rad<1\/32767<s.rad))->ap7 ⟨s.ns,s.st⟩=grE s)):=fun h h2 h3=>by
  unfold grE
  rw [if_neg h,if_neg h2,if_neg h3]
  refine ⟨fun h4=>by rw [if_pos h4],fun h4=>⟨fun h5=>by rw [if_neg h4,if_pos h5],fun h5=>by rw [if_neg h4,if_neg h5]⟩⟩
 unfold noI at e4 e3 rest
 generalize isNI s.img=I at *
 generalize ap7 ⟨s.ns,s.st⟩=C at *
 generalize grE s=G at *
 by_cases hI:I<;>by_cases k1:s.kind=1<;>simp only [hI,k1,not_true_eq_false,not_false_eq_true,false_and,true_and,false_or,or_false,true_or,or_true,and_false,and_true,forall_const,false_implies,implies_true,true_implies,ne_eq] at e14 e4 e3 rest ⊢
 all_goals grind
end Go.Proofs.YthappngbapbkfaaGreat.Lgr
set_option linter.unusedSimpArgs false
set_option linter.unusedVariables false
namespace Go.Proofs.YthappngbapbkfaaGreat.Lcs
open Go.RowKit Sx Num Aff Afi Img Imh Rga Blend Ble Lsg Lta Lrd Lri Luc Lck Lgr
set_option maxRecDepth 100000
structure FwG where
 f:Nat->Int
 n:Nat
def ah2 (g:FwG):Prop:=∀ j,g.n<=j->j<8->g.f j=0
instance (g:FwG):Decidable (ah2 g):=decidable_of_iff (∀ j,j<8->g.n<=j->g.f j=0) ⟨fun h j a b=>h j b a,fun h j a b=>h j b a⟩
def arrD:SV->Nat->Int
 | .agg _ g=>fun j=>Sx.intOf (g j)
 | _=>fun _=>0
def fwI (g:FwG):Inv:=⟨Nat,fun i=>i<=8-g.n/\∀ j,g.n<=j->j<g.n+i->g.f j=0,fun i=>⟨[(8,.sl (8-g.n) 1 (fun i _=> .int .u8 (g.f (g.n+i)))),(9,.int .i64 (8-g.n:Nat)),(10,.int .i64 i)],[]⟩,fun i=>8-g.n-i⟩
def spFew:FSpec:=aa5 52 (γ:=FwG) (fun | [a,.int _ n]=>some ⟨arrD a,n.toNat⟩ | _=>none) (fun g=>[.agg 8 (fun j=> .int .u8 (g.f j)),.int .i64 g.n]) (fun g=>g.n<=8) (fun g=> .bool (decide (ah2 g)))
theorem ok_few:aa2 Tryz.prog spFew:=by
 refine aa1 (specs:=[]) (aa9 trivial) (eqs:=[]) (fun _ _ h=>(List.not_mem_nil h).elim) Aff.mixed Tryz.func52 rfl (by kernel_rfl) (fun _ _=>by kernel_rfl) (fun g=>(⟨[(2,.inv (fwI g))],[(1,[.tmp 2])]⟩:Ann)) (fun g=>Nat.le_of_ble_eq_true (by kernel_rfl)) ?_
 rintro ⟨f,n⟩ hn0
 refine ab5 (B:=let A:=Sx.Ask;let z3:=(8:Nat);let z2:=(fwI (FwG.mk f n));let z1:=(IntKind.i64=IntKind.i64);let z0:=(↑(z3-n):Int);True/\True/\True/\A ((0:Int)<=(↑n:Int)/\(↑n:Int)<=(↑z3:Int))/\True/\True/\(∃ g:Nat,A (z2.pre g)/\((A (z3-(↑n:Int).toNat=z3-n)/\∀ i:Nat,i<z3-n->True/\A (IntKind.u8=IntKind.u8)/\A (f ((0:Nat)+((↑n:Int).toNat+i))=f (n+i)))/\(A z1/\A ((↑(z3-(↑n:Int).toNat):Int)=z0))/\(A z1/\A ((0:Int)=(↑g:Int)))/\True)/\True)/\∀ g:Nat,let z4:=(↑g:Int); z2.pre g->True/\Sx.Br (decide (z4<z0)) (A ((0:Int)<=z4/\z4<z0)/\True/\True/\True/\True/\Sx.Br (decide (f (n+z4.toNat)≠(0:Int))) (True/\True/\A (false=decide (ah2 (FwG.mk f n)))) (A ((-9223372036854775808:Int)<=z4+(1:Int)/\z4+(1:Int)<=(9223372036854775807:Int))/\True/\∃ (g':Nat),A (z2.pre g')/\(((A (z3-n=z3-n)/\∀ i:Nat,i<z3-n->True/\A (IntKind.u8=IntKind.u8)/\A (f (n+i)=f (n+i)))/\(A z1/\A (z0=z0))/\(A z1/\A (z4+(1:Int)=(↑g':Int)))/\True)/\True)/\A (z2.meas g'<z2.meas g))) (True/\True/\A (true=decide (ah2 (FwG.mk f n))))) (by kernel_rfl) ?_
 simp only [aa4,aa8,eq_self,true_and,and_true,implies_true,forall_const,decide_eq_true_eq,decide_eq_false_iff_not,ne_eq,Nat.mul_one,Nat.add_zero,Nat.zero_add]
 have hn:n<=8:=hn0
 clear hn0
 simp only [Int.toNat_natCast]
 refine ⟨by omega,⟨0,⟨Nat.zero_le _,fun j h1 h2=>absurd h2 (Nat.not_lt.2 h1)⟩,by simp⟩,fun q hq=>?_⟩
 obtain ⟨q1,q2⟩:q<=8-n/\∀ j,n<=j->j<n+q->f j=0:=hq
 refine ⟨fun hlt=>⟨by omega,fun h=>(decide_eq_false fun hf=>h (hf (n+q) (Nat.le_add_right n q) (by omega))).symm,fun h=>⟨by omega,q+1,⟨(show q+1<=8-n by omega),fun j h1 h2=>?_⟩,by simp,(show 8-n-(q+1)<8-n-q by omega)⟩⟩,fun hge=>(decide_eq_true (show ah2 ⟨f,n⟩ from fun j h1 h2=>q2 j h1 (by have h1:n<=j:=h1; omega))).symm⟩
 by_cases e:j=n+q
 ·subst e; exact Classical.not_not.1 h
 ·have h1:n<=j:=h1
  have h2:j<n+(q+1):=h2
  exact q2 j h1 (by omega)
theorem aX9 {f f':Nat->Int}{n:Nat}(h:∀ j,j<8->f j=f' j):ah2 ⟨f,n⟩<->ah2 ⟨f',n⟩:=
 ⟨fun hf j h1 h2=>(h j h2).symm.trans (hf j h1 h2),fun hf j h1 h2=>(h j h2).trans (hf j h1 h2)⟩
theorem lt8 {p:Nat->Prop}(h0:p 0) (h1:p 1) (h2:p 2) (h3:p 3) (h4:p 4) (h5:p 5) (h6:p 6) (h7:p 7):∀ j,j<8->p j:=fun j hj=>
 match j,hj with
 | 0,_=>h0
 | 1,_=>h1
 | 2,_=>h2
 | 3,_=>h3
 | 4,_=>h4
 | 5,_=>h5
 | 6,_=>h6
 | 7,_=>h7
theorem gr_len {s:Src}(h:grE s=0):1<=s.ns/\s.ns<=16:=by
 unfold grE ap7 at h
 simp only at h
 repeat' (split at h)
 all_goals omega
theorem chk_len {g:ImgG}(h:g.chk=0):g.n<=65536:=by
 unfold ImgG.chk at h
 split at h
 ·omega
 ·split at h
  ·omega
  ·have q:g.w*g.h<=256*256:=Int.mul_le_mul (by omega) (by omega) (by omega) (by omega)
   omega
def inkF (k:Ink) (j:Nat):Int:=Sx.intOf (lst (inkL k) j)
def csE (s:Src) (n:Nat):Int:=
 if s.kind=0 then (if ¬ isZ s\/¬ isNI s.img then 4 else if ah2 ⟨inkF s.ink,n⟩ then 0 else 4)
 else if s.kind=1\/s.kind=2 then (if grE s≠0 then grE s else if ∀ i,i<s.ns->ah2 ⟨inkF (s.st i).ink,n⟩ then 0 else 4)
 else if s.kind=3 then (if ¬ isZ s\/¬ noI s.ink then 4 else if s.img.chk≠0 then s.img.chk else if ∀ i,i<s.img.n->ah2 ⟨inkF (s.img.px i),n⟩ then 0 else 4)
 else 14
structure CsG where
 s:Src
 n:Nat
def csA (g:CsG) (i:Nat):Prop:=∀ j,j<i->ah2 ⟨inkF (g.s.st j).ink,g.n⟩
instance (g:CsG) (i:Nat):Decidable (csA g i):=inferInstanceAs (Decidable (∀ j,j<i->_))
def csB (g:CsG) (i:Nat):Prop:=∀ j,j<i->ah2 ⟨inkF (g.s.img.px j),g.n⟩
instance (g:CsG) (i:Nat):Decidable (csB g i):=inferInstanceAs (Decidable (∀ j,j<i->_))
def csI1 (g:CsG):Inv:=⟨Nat,fun i=>i<=g.s.ns,fun i=>⟨[(1,.int .i64 g.n),(5,.bool (decide (csA g i))),(38,.sl g.s.ns 9 (fun i=>lst (stpL (g.s.st i)))),(39,.int .i64 g.s.ns),(40,.int .i64 i)],[]⟩,fun i=>g.s.ns-i⟩
def csI2 (g:CsG):Inv:=⟨Nat,fun i=>i<=g.s.img.n,fun i=>⟨[(1,.int .i64 g.n),(5,.bool (decide (csB g i))),(71,.sl g.s.img.n 8 (fun i=>lst (inkL (g.s.img.px i)))),(72,.int .i64 g.s.img.n),(73,.int .i64 i)],[]⟩,fun i=>g.s.img.n-i⟩
def spCsrc:FSpec:=aa5 36 (γ:=CsG) (fun | [.agg _ g,.int _ n]=>some ⟨srcD g,n.toNat⟩ | _=>none) (fun g=>[srcS g.s,.int .i64 g.n]) (fun g=>g.n<=8) (fun g=> .int .i64 (csE g.s g.n))
theorem ok_csrc:aa2 Tryz.prog spCsrc:=by
 refine aa1 (specs:=[spFew,spZero,a09,spGrad,bb8]) (aa9 (⟨ok_few,ok_zero,ok_noImg,ok_grad,ok_checkI,trivial⟩)) (eqs:=Lck.eqP) (all_eq Lck.aO6) Aff.mixed Tryz.func36 rfl (by kernel_rfl) (fun _ _=>by kernel_rfl) (fun g=>(⟨[(14,.inv (csI1 g)),(25,.inv (csI2 g))],[]⟩:Ann)) (fun g=>Nat.le_of_ble_eq_true (by kernel_rfl)) ?_
 rintro ⟨s,n⟩ hn
 refine ab5 (B:=let T2:=fun p:Prop=>True/\True/\p;let T3:=fun p:Prop=>True/\True/\True/\p;let T5:=fun p:Prop=>True/\True/\True/\True/\True/\p;let K:=Sx.Br;let A:=Sx.Ask;let z23:=(↑s.img.n:Int);let z21:=(1:Int);let z20:=(((Lsg.qG True s.img s.img)/\True)/\A True);let z17:=(↑n:Int);let z22:=(z17.toNat<=(8:Nat));let z15:=(0:Int);let z14:=(((Lsg.qS True s s)/\True)/\A True);let z7:=(A (s.img.n=s.img.n)/\∀ i:Nat,i<s.img.n->(Lsg.qI True (s.img.px i) (s.img.px i)));let z6:=(CsG.mk s n);let z25:=(csI2 z6);let z24:=(csI1 z6);let z2:=(IntKind.i64=IntKind.i64);let q2:=fun p:Int=>A z2/\A (p=p);let z16:=(T3 (A z2/\A ((4:Int)=csE s n)));let z13:=(q2 ((↑s.ns:Int)));let z12:=(T2 (A z2/\A (z15=csE s n)));let z9:=(q2 z23);let z8:=(A z2/\A (z17=(↑z17.toNat:Int)));let z5:=(T2 (A z2/\A ((4:Int)=csE s n)));let z4:=(q2 z17);let z3:=(A (s.ns=s.ns)/\∀ i:Nat,i<s.ns->(Lsg.qI (True/\q2 ((s.st i).pos)) ((s.st i).ink) ((s.st i).ink)));let z1:=(True/\z14/\T3 (K (decide (Lgr.grE s≠z15)) (T3 (A z2/\A (Lgr.grE s=csE s n))) (T3 (True/\(∃ g:Nat,A (z24.pre g)/\(z4/\A (true=decide (csA z6 g))/\z3/\z13/\(A z2/\A (z15=(↑g:Int)))/\True)/\True)/\∀ g:Nat,let z18:=(↑g:Int);let z10:=((-9223372036854775808:Int)<=z18+z21/\z18+z21<=(9223372036854775807:Int)); z24.pre g->True/\K (decide (z18<(↑s.ns:Int))) (A (z15<=z18/\z18<(↑s.ns:Int))/\T5 (K (decide (csA z6 g)) (T3 ((((Lsg.qI True ((s.st z18.toNat).ink) ((s.st z18.toNat).ink))/\z8/\True)/\A z22)/\T2 (A z10/\True/\∃ (g':Nat),A (z24.pre g')/\((z4/\A (decide (ah2 (FwG.mk (fun (j:Nat)=>Sx.intOf (Sx.lst (Lsg.stpL (s.st z18.toNat)) ((0:Nat)+((0:Nat)+(1:Nat)+j)))) z17.toNat))=decide (csA z6 g'))/\z3/\z13/\(A z2/\A (z18+z21=(↑g':Int)))/\True)/\True)/\A (z24.meas g'<z24.meas g)))) (T2 (A z10/\True/\∃ (g':Nat),A (z24.pre g')/\((z4/\A (false=decide (csA z6 g'))/\z3/\z13/\(A z2/\A (z18+z21=(↑g':Int)))/\True)/\True)/\A (z24.meas g'<z24.meas g))))) (T2 (K (!decide (csA z6 g)) z5 z12))))));let z0:=(T2 (K (decide (s.kind=(3:Int))) (True/\z14/\T2 (K (!decide (Lck.isZ s)) z16 (T5 (K (!(decide (s.ink.c0=z15)&&(decide (s.ink.c1=z15)&&(decide (s.ink.c2=z15)&&(decide (s.ink.c3=z15)&&(decide (s.ink.c4=z15)&&(decide (s.ink.c5=z15)&&(decide (s.ink.c6=z15)&&(decide (s.ink.c7=z15)&&true))))))))) z5 (T2 (z20/\T3 (K (decide (s.img.chk≠z15)) (T3 (A z2/\A (s.img.chk=csE s n))) (T5 ((∃ g:Nat,A (z25.pre g)/\(z4/\A (true=decide (csB z6 g))/\z7/\z9/\(A z2/\A (z15=(↑g:Int)))/\True)/\True)/\∀ g:Nat,let z19:=(↑g:Int);let z26:=(s.img.px z19.toNat);let z11:=((-9223372036854775808:Int)<=z19+z21/\z19+z21<=(9223372036854775807:Int)); z25.pre g->True/\K (decide (z19<z23)) (A (z15<=z19/\z19<z23)/\T5 (K (decide (csB z6 g)) (T2 ((((Lsg.qI True z26 z26)/\z8/\True)/\A z22)/\T2 (A z11/\True/\∃ (g':Nat),A (z25.pre g')/\((z4/\A (decide (ah2 (FwG.mk (fun (j:Nat)=>Sx.intOf (Sx.lst (Img.inkL z26) ((0:Nat)+((0:Nat)+j)))) z17.toNat))=decide (csB z6 g'))/\z7/\z9/\(A z2/\A (z19+z21=(↑g':Int)))/\True)/\True)/\A (z25.meas g'<z25.meas g)))) (T2 (A z11/\True/\∃ (g':Nat),A (z25.pre g')/\((z4/\A (false=decide (csB z6 g'))/\z7/\z9/\(A z2/\A (z19+z21=(↑g':Int)))/\True)/\True)/\A (z25.meas g'<z25.meas g))))) (T2 (K (!decide (csB z6 g)) z5 z12))))))))))) (T2 (A z2/\A ((14:Int)=csE s n)))));T5 (T2 (K (decide (s.kind=z15)) (True/\z14/\T2 (K (!decide (Lck.isZ s)) z16 (T2 (z20/\T2 (K (!decide (Lck.isNI s.img)) z5 (T3 ((((Lsg.qI True s.ink s.ink)/\z8/\True)/\A z22)/\T3 (K (!decide (ah2 (FwG.mk (fun (j:Nat)=>Sx.intOf (Sx.lst (Lsg.srcL s) ((0:Nat)+(1:Nat)+j))) z17.toNat))) z5 z12)))))))) (T2 (K (decide (s.kind=z21)) (K (decide (s.kind=z21)) z1 z0) (T2 (K (decide (s.kind=(2:Int))) z1 z0))))))) (by kernel_rfl) ?_
 delta Lsg.qG Lsg.qI Lsg.qM Lsg.qS
 simp only [aa4,aa8,eq_self,true_and,and_true,implies_true,forall_const,decide_eq_true_eq,decide_eq_false_iff_not,ne_eq,Nat.mul_one,Nat.add_zero,Nat.zero_add]
 have hn:n<=8:=hn
 have f1:ah2 ⟨fun j=>Sx.intOf (lst (srcL s) (1+j)),n⟩<->ah2 ⟨inkF s.ink,n⟩:=aX9 (lt8 rfl rfl rfl rfl rfl rfl rfl rfl)
 have f2:∀ i,ah2 ⟨fun j=>Sx.intOf (lst (stpL (s.st i)) (1+j)),n⟩<->ah2 ⟨inkF (s.st i).ink,n⟩:=fun i=>aX9 (lt8 rfl rfl rfl rfl rfl rfl rfl rfl)
 have f3:∀ i,ah2 ⟨fun j=>Sx.intOf (lst (inkL (s.img.px i)) j),n⟩<->ah2 ⟨inkF (s.img.px i),n⟩:=fun i=>Iff.rfl
 have a0:csA ⟨s,n⟩ 0:=fun j hj=>absurd hj (Nat.not_lt_zero _)
 have b0:csB ⟨s,n⟩ 0:=fun j hj=>absurd hj (Nat.not_lt_zero _)
 have a1:∀ i,csA ⟨s,n⟩ (i+1)<->csA ⟨s,n⟩ i/\ah2 ⟨inkF (s.st i).ink,n⟩:=fun i=>⟨fun h=>⟨fun j hj=>h j (by omega),h i (by omega)⟩,fun h j hj=>by
  by_cases e:j=i
  ·subst e; exact h.2
  ·exact h.1 j (by omega)⟩
 have b1:∀ i,csB ⟨s,n⟩ (i+1)<->csB ⟨s,n⟩ i/\ah2 ⟨inkF (s.img.px i),n⟩:=fun i=>⟨fun h=>⟨fun j hj=>h j (by omega),h i (by omega)⟩,fun h j hj=>by
  by_cases e:j=i
  ·subst e; exact h.2
  ·exact h.1 j (by omega)⟩
 have noI':(s.ink.c0=0/\s.ink.c1=0/\s.ink.c2=0/\s.ink.c3=0/\s.ink.c4=0/\s.ink.c5=0/\s.ink.c6=0/\s.ink.c7=0)<->noI s.ink:=Iff.rfl
 simp only [Int.toNat_natCast,Bool.and_true,Bool.not_eq_true',Bool.not_eq_false',Bool.and_eq_true,Bool.and_eq_false_iff,decide_eq_true_eq,decide_eq_false_iff_not,true_and,noI',f1,f2,f3,hn]
 refine ⟨fun h0=>?_,fun h0=>⟨fun h1=>⟨fun _=>?_,fun hc=>absurd h1 hc⟩,fun h1=>⟨fun h2=>?_,fun h2=>⟨fun h3=>?_,fun h3=>?_⟩⟩⟩⟩
 ·have e:csE s n=if ¬ isZ s\/¬ isNI s.img then 4 else if ah2 ⟨inkF s.ink,n⟩ then 0 else 4:=by unfold csE; rw [if_pos h0]
  refine ⟨fun h=>by rw [e,if_pos (.inl h)],fun hz=>⟨fun h=>by rw [e,if_pos (.inr h)],fun hi=>⟨fun h=>?_,fun h=>?_⟩⟩⟩
  ·rw [e,if_neg (fun hc=>hc.elim (fun c=>c hz) (fun c=>c hi)),if_neg h]
  ·rw [e,if_neg (fun hc=>hc.elim (fun c=>c hz) (fun c=>c hi)),if_pos h]
 ·have hk:s.kind=1\/s.kind=2:=by omega
  have e:csE s n=if grE s≠0 then grE s else if ∀ i,i<s.ns->ah2 ⟨inkF (s.st i).ink,n⟩ then 0 else 4:=by unfold csE; rw [if_neg h0,if_pos hk]
  refine ⟨fun hg=>by rw [e,if_pos hg],fun hg=>?_⟩
  have hl:=gr_len (Classical.not_not.1 hg)
  refine ⟨⟨0,Nat.zero_le _,(decide_eq_true a0).symm,rfl⟩,fun q hq=>⟨fun hlt=>⟨by omega,fun ha=>⟨by omega,q+1,(show q+1<=s.ns by omega),⟨decide_eq_decide.2 (by rw [a1]; exact ⟨fun h=>⟨ha,h⟩,fun h=>h.2⟩),by simp⟩,(show s.ns-(q+1)<s.ns-q by omega)⟩,fun ha=>⟨by omega,q+1,(show q+1<=s.ns by omega),⟨(decide_eq_false fun h=>ha ((a1 q).1 h).1).symm,by simp⟩,(show s.ns-(q+1)<s.ns-q by omega)⟩⟩,fun hge=>?_⟩⟩
  have hq:q<=s.ns:=hq
  have hqq:q=s.ns:=by omega
  have hb:csA ⟨s,n⟩ q<->∀ i,i<s.ns->ah2 ⟨inkF (s.st i).ink,n⟩:=by rw [hqq]; exact Iff.rfl
  exact ⟨fun h=>by rw [e,if_neg hg,if_neg (fun hc=>h (hb.2 hc))],fun h=>by rw [e,if_neg hg,if_pos (hb.1 h)]⟩
 ·have hk:s.kind=1\/s.kind=2:=by omega
  have e:csE s n=if grE s≠0 then grE s else if ∀ i,i<s.ns->ah2 ⟨inkF (s.st i).ink,n⟩ then 0 else 4:=by unfold csE; rw [if_neg h0,if_pos hk]
  refine ⟨fun hg=>by rw [e,if_pos hg],fun hg=>?_⟩
  have hl:=gr_len (Classical.not_not.1 hg)
  refine ⟨⟨0,Nat.zero_le _,(decide_eq_true a0).symm,rfl⟩,fun q hq=>⟨fun hlt=>⟨by omega,fun ha=>⟨by omega,q+1,(show q+1<=s.ns by omega),⟨decide_eq_decide.2 (by rw [a1]; exact ⟨fun h=>⟨ha,h⟩,fun h=>h.2⟩),by simp⟩,(show s.ns-(q+1)<s.ns-q by omega)⟩,fun ha=>⟨by omega,q+1,(show q+1<=s.ns by omega),⟨(decide_eq_false fun h=>ha ((a1 q).1 h).1).symm,by simp⟩,(show s.ns-(q+1)<s.ns-q by omega)⟩⟩,fun hge=>?_⟩⟩
  have hq:q<=s.ns:=hq
  have hqq:q=s.ns:=by omega
  have hb:csA ⟨s,n⟩ q<->∀ i,i<s.ns->ah2 ⟨inkF (s.st i).ink,n⟩:=by rw [hqq]; exact Iff.rfl
  exact ⟨fun h=>by rw [e,if_neg hg,if_neg (fun hc=>h (hb.2 hc))],fun h=>by rw [e,if_neg hg,if_pos (hb.1 h)]⟩
 ·have e:csE s n=if ¬ isZ s\/¬ noI s.ink then 4 else if s.img.chk≠0 then s.img.chk else if ∀ i,i<s.img.n->ah2 ⟨inkF (s.img.px i),n⟩ then 0 else 4:=by unfold csE; rw [if_neg h0,if_neg (by omega),if_pos h3]
  refine ⟨fun h=>by rw [e,if_pos (.inl h)],fun hz=>⟨fun h=>by rw [e,if_pos (.inr (fun hc=>by unfold noI at hc; omega))],fun hi=>?_⟩⟩
  have hni:¬ (¬ isZ s\/¬ noI s.ink):=fun hc=>hc.elim (fun c=>c hz) (fun c=>c hi)
  refine ⟨fun hg=>by rw [e,if_neg hni,if_pos hg],fun hg=>?_⟩
  have hl:=chk_len (Classical.not_not.1 hg)
  refine ⟨⟨0,Nat.zero_le _,(decide_eq_true b0).symm,rfl⟩,fun q hq=>⟨fun hlt=>⟨by omega,fun ha=>⟨by omega,q+1,(show q+1<=s.img.n by omega),⟨decide_eq_decide.2 (by rw [b1]; exact ⟨fun h=>⟨ha,h⟩,fun h=>h.2⟩),by simp⟩,(show s.img.n-(q+1)<s.img.n-q by omega)⟩,fun ha=>⟨by omega,q+1,(show q+1<=s.img.n by omega),⟨(decide_eq_false fun h=>ha ((b1 q).1 h).1).symm,by simp⟩,(show s.img.n-(q+1)<s.img.n-q by omega)⟩⟩,fun hge=>?_⟩⟩
  have hq:q<=s.img.n:=hq
  have hqq:q=s.img.n:=by omega
  clear hge hl
  have hb:csB ⟨s,n⟩ q<->∀ i,i<s.img.n->ah2 ⟨inkF (s.img.px i),n⟩:=by rw [hqq]; exact Iff.rfl
  exact ⟨fun h=>by rw [e,if_neg hni,if_neg hg,if_neg (fun hc=>h (hb.2 hc))],fun h=>by rw [e,if_neg hni,if_neg hg,if_pos (hb.1 h)]⟩
 ·unfold csE
  rw [if_neg h0,if_neg (by omega),if_neg h3]
end Go.Proofs.YthappngbapbkfaaGreat.Lcs
set_option linter.unusedSimpArgs false
set_option linter.unusedVariables false
namespace Go.Proofs.YthappngbapbkfaaGreat.Lst
open Go.RowKit Sx Num Aff Afi Img Imh Rga Blend Ble Lsg Lta Lrd Lri Luc Lck Lgr Lcs
set_option maxRecDepth 100000
structure SsG where
 n:Nat
 nm:Nat->ByteArray
 s:ByteArray
def ssS (g:SsG):SV:= .sl g.n 1 (fun i _=> .str (g.nm i))
def sEq (s t:ByteArray):Bool:=s.toList==t.toList
def ssX (nm:Nat->ByteArray) (s:ByteArray):Nat->Nat->Int
 | 0,_=> -1
 | m+1,k=>if sEq s (nm k)=true then (k:Int) else ssX nm s m (k+1)
theorem ssX_next {nm s} {n i:Nat}(h:i<n):ssX nm s (n-i) i=if sEq s (nm i)=true then (i:Int) else ssX nm s (n-(i+1)) (i+1):=by
 rw [show n-i=(n-(i+1))+1 by omega]; rfl
def ssI (g:SsG):Inv:=⟨Nat,fun i=>i<=g.n/\ssX g.nm g.s g.n 0=ssX g.nm g.s (g.n-i) i,fun i=>⟨[(0,ssS g),(1,.str g.s),(7,.int .i64 g.n),(8,.int .i64 i)],[]⟩,fun i=>g.n-i⟩
def ssD:List SV->Option SsG
 | [m,.str s]=>some ⟨aj0 m,nmD m,s⟩
 | _=>none
def spIdxS:FSpec:=aa5 34 (γ:=SsG) ssD (fun g=>[ssS g,.str g.s]) (fun g=>g.n<=1000) (fun g=> .int .i64 (ssX g.nm g.s g.n 0))
theorem ok_idxS:aa2 Tryz.prog spIdxS:=by
 refine aa1 (specs:=[]) (aa9 trivial) (eqs:=[]) (fun _ _ h=>(List.not_mem_nil h).elim) Aff.mixed Tryz.func34 rfl (by kernel_rfl) (fun _ _=>by kernel_rfl) (fun g=>(⟨[(2,.inv (ssI g))],[]⟩:Ann)) (fun g=>Nat.le_of_ble_eq_true (by kernel_rfl)) ?_
 rintro g hg
 refine ab5 (B:=let A:=Sx.Ask;let z1:=(A (g.n=g.n)/\∀ i:Nat,i<g.n->True/\A (g.nm i=g.nm i));let z0:=(IntKind.i64=IntKind.i64);let z3:=(A z0/\A ((↑g.n:Int)=(↑g.n:Int)));True/\True/\True/\True/\(∃ g_1:Nat,A ((ssI g).pre g_1)/\(z1/\A (g.s=g.s)/\z3/\(A z0/\A ((0:Int)=(↑g_1:Int)))/\True)/\True)/\∀ g_1:Nat,let z2:=(↑g_1:Int); (ssI g).pre g_1->True/\Sx.Br (decide (z2<(↑g.n:Int))) (True/\True/\True/\True/\True/\A ((0:Int)<=z2/\z2<(↑g.n:Int))/\True/\True/\Sx.Br (g.s.toList==(g.nm z2.toNat).toList) (True/\True/\True/\A z0/\A (z2=ssX g.nm g.s g.n (0:Nat))) (A ((-9223372036854775808:Int)<=z2+(1:Int)/\z2+(1:Int)<=(9223372036854775807:Int))/\True/\∃ (g':Nat),A ((ssI g).pre g')/\((z1/\A (g.s=g.s)/\z3/\(A z0/\A (z2+(1:Int)=(↑g':Int)))/\True)/\True)/\A ((ssI g).meas g'<(ssI g).meas g_1))) (True/\True/\A z0/\A ((-1:Int)=ssX g.nm g.s g.n (0:Nat)))) (by kernel_rfl) ?_
 simp only [aa4,aa8,eq_self,true_and,and_true,implies_true,forall_const,decide_eq_true_eq,decide_eq_false_iff_not,ne_eq,Nat.mul_one,Nat.add_zero,Nat.zero_add]
 simp only [Int.toNat_natCast]
 refine ⟨⟨0,⟨Nat.zero_le _,rfl⟩,rfl⟩,fun q hq=>?_⟩
 obtain ⟨q1,q2⟩:q<=g.n/\ssX g.nm g.s g.n 0=ssX g.nm g.s (g.n-q) q:=hq
 refine ⟨fun hlt=>?_,fun hge=>?_⟩
 ·have hlt:q<g.n:=by omega
  rw [ssX_next hlt] at q2
  exact ⟨by omega,fun h=>by rw [q2,if_pos (show sEq g.s (g.nm q)=true from h)],fun h=>⟨by omega,q+1,⟨hlt,by rw [q2,if_neg (by unfold sEq; rw [h]; exact Bool.false_ne_true)]⟩,by simp,(show g.n-(q+1)<g.n-q by omega)⟩⟩
 ·have:q=g.n:=by omega
  rw [this,Nat.sub_self] at q2
  exact q2.symm
def spConS:FSpec:=aa5 19 (γ:=SsG) ssD (fun g=>[ssS g,.str g.s]) (fun g=>g.n<=1000) (fun g=> .bool (decide (0<=ssX g.nm g.s g.n 0)))
theorem ok_conS:aa2 Tryz.prog spConS:=by
 refine aa1 (specs:=[spIdxS]) (aa9 (⟨ok_idxS,trivial⟩)) (eqs:=[]) (fun _ _ h=>(List.not_mem_nil h).elim) Aff.mixed Tryz.func19 rfl (by kernel_rfl) (fun _ _=>by kernel_rfl) (fun g=>A0) (fun g=>Nat.le_of_ble_eq_true (by kernel_rfl)) ?_
 rintro g hg
 refine ab5 (B:=let A:=Sx.Ask;True/\True/\True/\(((A (g.n=g.n)/\∀ i:Nat,i<g.n->True/\A (g.nm i=g.nm i))/\A (g.s=g.s)/\True)/\A (g.n<=(1000:Nat)))/\True/\True/\True/\A (decide ((0:Int)<=ssX (fun (i:Nat)=>Lsg.strOf (Sx.SV.str (g.nm i))) g.s g.n (0:Nat))=decide ((0:Int)<=ssX g.nm g.s g.n (0:Nat)))) (by kernel_rfl) ?_
 simp only [aa4,aa8,eq_self,true_and,and_true,implies_true,forall_const,decide_eq_true_eq,decide_eq_false_iff_not,ne_eq,Nat.mul_one,Nat.add_zero,Nat.zero_add]
 exact ⟨hg,rfl⟩
end Go.Proofs.YthappngbapbkfaaGreat.Lst
set_option linter.unusedSimpArgs false
set_option linter.unusedVariables false
namespace Go.Proofs.YthappngbapbkfaaGreat.Lch
open Go.RowKit Sx Num Aff Afi Img Imh Rga Blend Ble Lsg Lta Lrd Lri Luc Lck Lgr Lcs Lst
set_option maxRecDepth 100000
theorem td {p:Prop} [Decidable p]:(true=decide p)=p:=by by_cases h:p<;>simp [h]
theorem bd {b:Bool}{p:Prop} [Decidable p]:(b=decide p)=(b=true<->p):=by by_cases h:p<;>cases b<;>simp [h]
theorem nd {p q:Prop} [Decidable p] [Decidable q]:((!decide p)=decide q)=(¬ p<->q):=by by_cases h:p<;>by_cases k:q<;>simp [h,k]
structure CiG where
 x:It
 n:Nat
 o:Int
def ak9 (x:It):Prop:=if x.kind=0 then x.iso=true\/x.knock=true else if x.kind=1 then x.nr≠0\/x.over=true\/¬ isNS x.src
 else x.nr≠0\/x.over=true\/¬ isNS x.src\/x.iso=true\/x.knock=true\/x.alpha≠0\/x.blend≠0
instance (x:It):Decidable (ak9 x):=by unfold ak9; infer_instance
def ciE (x:It) (n:Nat) (o:Int):Int:=
 if x.kind≠0/\x.kind≠1/\x.kind≠2 then 14
 else if ak9 x then 4
 else if x.kind=2/\o=0 then 18
 else if x.kind=1/\16<=o then 15
 else if x.blend<0\/12<=x.blend\/(x.kind=1/\x.iso=false/\x.blend≠0) then 1
 else if x.kind≠0 then 0
 else if ai3 ⟨x.nr,x.runs⟩≠0 then ai3 ⟨x.nr,x.runs⟩ else csE x.src n
def ciC (g:CiG):Inv:=⟨Unit,fun _=>g.x.kind=0\/g.x.kind=1\/g.x.kind=2,fun _=>⟨[(1,.int .i64 g.n),(2,.int .i64 g.o),(3,.own 0 0),(7,.bool (decide (ak9 g.x)))],[.cells 34 (lst (itL g.x)) 50]⟩,fun _=>0⟩
def ciT (g:CiG):St:=⟨[(1,.int .i64 g.n),(2,.int .i64 g.o),(3,.own 0 0)],[.cells 34 (lst (itL g.x)) 50]⟩
def ciQ (g:CiG):Prop:=(g.x.kind=0\/g.x.kind=1\/g.x.kind=2)/\¬ ak9 g.x/\¬ (g.x.kind=2/\g.o=0)/\¬ (g.x.kind=1/\16<=g.o)
def ciC3 (g:CiG):Inv:=⟨Unit,fun _=>ciQ g/\g.x.kind=0/\0<=g.x.blend/\g.x.blend<12,fun _=>ciT g,fun _=>0⟩
def spItem:FSpec:=aa5 20 (γ:=CiG) (fun | [.agg _ g,.int _ n,.int _ o]=>some ⟨itD g,n.toNat,o⟩ | _=>none) (fun g=>[.agg 34 (lst (itL g.x)),.int .i64 g.n,.int .i64 g.o]) (fun g=>g.n<=8/\g.x.nr<=9223372036854775807) (fun g=> .int .i64 (ciE g.x g.n g.o))
theorem ok_item:aa2 Tryz.prog spItem:=by
 refine aa1 (specs:=[spNoSrc,a07,spCsrc]) (aa9 (⟨ok_noSrc,ok_rgChk,ok_csrc,trivial⟩)) (eqs:=[]) (fun _ _ h=>(List.not_mem_nil h).elim) Aff.mixed Tryz.func20 rfl (by kernel_rfl) (fun _ _=>by kernel_rfl) (fun g=>(⟨[(10,.cut (ciC g)),(20,.cut (ciC3 g))],[]⟩:Ann)) (fun g=>Nat.le_of_ble_eq_true (by kernel_rfl)) ?_
 rintro ⟨x,n,o⟩ ⟨hn,hr⟩
 refine ab5 (B:=let T2:=fun p:Prop=>True/\True/\p;let T3:=fun p:Prop=>True/\True/\True/\p;let T4:=fun p:Prop=>True/\True/\True/\True/\p;let T5:=fun p:Prop=>True/\True/\True/\True/\True/\p;let T6:=fun p:Prop=>True/\True/\True/\True/\True/\True/\p;let K:=Sx.Br;let A:=Sx.Ask;let z18:=((1:Int)=ciE x n o);let z17:=(((Lsg.qS True x.src x.src)/\True)/\A True);let z16:=(0:Int);let z19:=(decide (x.kind≠z16));let z14:=(decide (x.kind=(1:Int)));let z13:=((0:Nat)=(0:Nat));let z8:=(Lsg.qT True x x);let z5:=(ciC (CiG.mk x n o));let z2:=(IntKind.i64=IntKind.i64);let q2:=fun p:Int=>A z2/\A (p=p);let z12:=(T6 (A z2/\A z18));let z11:=(q2 o);let z10:=(T2 (A z2/\A (z16=ciE x n o)));let z6:=(q2 ((↑n:Int)));let z3:=(∃ g:Unit,A ((ciC3 (CiG.mk x n o)).pre g)/\(z6/\z11/\A z13/\True)/\z8/\True);let z1:=(z6/\z11/\A z13/\A (true=decide (ak9 x))/\True);let z15:=(T4 (∃ g:Unit,A (z5.pre g)/\z1/\z8/\True));let z9:=(T2 (∃ g:Unit,A (z5.pre g)/\z1/\z8/\True));let z0:=(T5 (K (decide ((12:Int)<=x.blend)) (T4 (A z2/\A z18)) (T4 (K z14 (T5 (K (!x.iso) (T6 (K (decide (x.blend≠z16)) (T2 (A z2/\A z18)) (T4 (K z19 z10 z3)))) (T6 (True/\K z19 z10 z3)))) (T6 (T3 (K z19 z10 z3)))))));let z7:=(T6 (K (decide (x.blend<z16)) z12 z0));let z4:=(T4 (K (decide ((16:Int)<=o)) (T2 (A z2/\A ((15:Int)=ciE x n o))) (T4 (K (decide (x.blend<z16)) z12 z0))));T3 ((T4 (K (decide (x.kind=z16)) (T3 (K x.iso z9 (T4 (∃ g:Unit,A (z5.pre g)/\(z6/\z11/\A z13/\A (x.knock=decide (ak9 x))/\True)/\z8/\True)))) (T2 (K z14 (T5 (K (decide (z16<(↑x.nr:Int))) z15 (T4 (K x.over z9 (T2 (z17/\T3 (∃ g:Unit,A (z5.pre g)/\(z6/\z11/\A z13/\A ((!decide (Lck.isNS x.src))=decide (ak9 x))/\True)/\z8/\True))))))) (T2 (K (decide (x.kind=(2:Int))) (T5 (K (decide (z16<(↑x.nr:Int))) (T6 (T6 (∃ g:Unit,A (z5.pre g)/\z1/\z8/\True))) (T4 (K x.over (T6 (T4 (∃ g:Unit,A (z5.pre g)/\z1/\z8/\True))) (T2 (z17/\T3 (K (!decide (Lck.isNS x.src)) (T6 (T2 (∃ g:Unit,A (z5.pre g)/\z1/\z8/\True))) (T4 (K x.iso (T6 (∃ g:Unit,A (z5.pre g)/\z1/\z8/\True)) (T4 (K x.knock z15 (T5 (K (decide (x.alpha≠z16)) z9 (T5 (∃ g:Unit,A (z5.pre g)/\(z6/\z11/\A z13/\A (decide (x.blend≠z16)=decide (ak9 x))/\True)/\z8/\True))))))))))))))) (T2 (A z2/\A ((14:Int)=ciE x n o)))))))))/\∀ g:Unit,z5.pre g->((T2 (K (decide (ak9 x)) (T2 (A z2/\A ((4:Int)=ciE x n o))) (T4 (K (decide (x.kind=(2:Int))) (T4 (K (decide (o=z16)) (T2 (A z2/\A ((18:Int)=ciE x n o))) (T4 (K z14 z4 z7)))) (T6 (K z14 z4 z7))))))/\∀ g:Unit,(ciC3 (CiG.mk x n o)).pre g->T2 ((((A (x.nr=x.nr)/\∀ i:Nat,i<x.nr->(((True/\q2 ((x.runs i).y))/\q2 ((x.runs i).x0))/\q2 ((x.runs i).x1)))/\True)/\A (x.nr<=(9223372036854775807:Nat)))/\T3 (K (decide (Lck.ai3 (Rga.Rg.mk x.nr x.runs)≠z16)) (T3 (A z2/\A (Lck.ai3 (Rga.Rg.mk x.nr x.runs)=ciE x n o))) (T3 ((((Lsg.qS True x.src x.src)/\(A z2/\A ((↑n:Int)=(↑(↑n:Int).toNat:Int)))/\True)/\A ((↑n:Int).toNat<=(8:Nat)))/\T2 (A z2/\A (Lcs.csE x.src (↑n:Int).toNat=ciE x n o))))))))) (by kernel_rfl) ?_
 delta Lsg.qG Lsg.qI Lsg.qM Lsg.qS Lsg.qT
 simp only [aa4,aa8,eq_self,true_and,and_true,implies_true,forall_const,decide_eq_true_eq,decide_eq_false_iff_not,ne_eq,Nat.mul_one,Nat.add_zero,Nat.zero_add]
 have hn:n<=8:=hn
 have hr:x.nr<=9223372036854775807:=hr
 simp only [Int.toNat_natCast,hn,hr,true_and,and_true,Bool.not_eq_true',Bool.not_eq_false',decide_eq_true_eq,decide_eq_false_iff_not]
 have c1:∀ P,(∃ g:Unit,(ciC ⟨x,n,o⟩).pre g/\P)<->((x.kind=0\/x.kind=1\/x.kind=2)/\P):=fun P=>⟨fun ⟨_,h⟩=>h,fun h=>⟨(),h⟩⟩
 have c2:∀ P:Prop,(∀ g:Unit,(ciC ⟨x,n,o⟩).pre g->P)<->((x.kind=0\/x.kind=1\/x.kind=2)->P):=fun P=>⟨fun h=>h (),fun h _=>h⟩
 have c3:(∃ g:Unit,(ciC3 ⟨x,n,o⟩).pre g)<->(((x.kind=0\/x.kind=1\/x.kind=2)/\¬ ak9 x/\¬ (x.kind=2/\o=0)/\¬ (x.kind=1/\16<=o))/\x.kind=0/\0<=x.blend/\x.blend<12):=⟨fun ⟨_,h⟩=>h,fun h=>⟨(),h⟩⟩
 have c4:∀ P:Prop,(∀ g:Unit,(ciC3 ⟨x,n,o⟩).pre g->P)<->((((x.kind=0\/x.kind=1\/x.kind=2)/\¬ ak9 x/\¬ (x.kind=2/\o=0)/\¬ (x.kind=1/\16<=o))/\x.kind=0/\0<=x.blend/\x.blend<12)->P):=fun P=>⟨fun h=>h (),fun h _=>h⟩
 have c5:0<(x.nr:Int)<->x.nr≠0:=by omega
 simp only [c1,c2,c3,c4,c5,td,bd,nd,decide_eq_decide,decide_eq_true_eq,Bool.not_eq_true',decide_eq_false_iff_not,true_iff]
 have b0:x.kind=0->(ak9 x<->(x.iso=true\/x.knock=true)):=fun h=>by unfold ak9; rw [if_pos h]
 have b1:x.kind=1->(ak9 x<->(x.nr≠0\/x.over=true\/¬ isNS x.src)):=fun h=>by unfold ak9; rw [if_neg (by omega),if_pos h]
 have b2:x.kind=2->(ak9 x<->(x.nr≠0\/x.over=true\/¬ isNS x.src\/x.iso=true\/x.knock=true\/x.alpha≠0\/x.blend≠0)):=fun h=>by unfold ak9; rw [if_neg (by omega),if_neg (by omega)]
 have e14:¬ (x.kind=0\/x.kind=1\/x.kind=2)->ciE x n o=14:=fun h=>by unfold ciE; rw [if_pos (by omega)]
 have e4:(x.kind=0\/x.kind=1\/x.kind=2)->ak9 x->ciE x n o=4:=fun h hb=>by unfold ciE; rw [if_neg (by omega),if_pos hb]
 have e18:¬ ak9 x->x.kind=2/\o=0->ciE x n o=18:=fun hb h=>by unfold ciE; rw [if_neg (by omega),if_neg hb,if_pos h]
 have e15:¬ ak9 x->x.kind=1/\16<=o->ciE x n o=15:=fun hb h=>by unfold ciE; rw [if_neg (by omega),if_neg hb,if_neg (by omega),if_pos h]
 have er:(x.kind=0\/x.kind=1\/x.kind=2)->¬ ak9 x->¬ (x.kind=2/\o=0)->¬ (x.kind=1/\16<=o)->ciE x n o=if x.blend<0\/12<=x.blend\/(x.kind=1/\x.iso=false/\x.blend≠0) then 1 else if x.kind≠0 then 0 else if ai3 ⟨x.nr,x.runs⟩≠0 then ai3 ⟨x.nr,x.runs⟩ else csE x.src n:=fun hk hb h1 h2=>by
  unfold ciE; rw [if_neg (by omega),if_neg hb,if_neg h1,if_neg h2]
 generalize ciE x n o=G at *
 generalize ai3 ⟨x.nr,x.runs⟩=C at *
 generalize csE x.src n=D at *
 generalize isNS x.src=I at *
 generalize ak9 x=B at *
 clear c1 c2 c3 c4 c5
 refine ⟨⟨?_,?_⟩,?_⟩
 ·clear e14 e4 e18 e15 er b1 b2
  grind
 ·clear e4 e18 e15 er b0
  repeat' (first | refine And.intro ?_ ?_ | intro _)
  all_goals grind
 ·clear b0 b1 b2 e14
  intro hk
  have e4:=e4 hk
  have er:=er hk
  repeat' (first | refine And.intro ?_ ?_ | intro _)
  all_goals grind
end Go.Proofs.YthappngbapbkfaaGreat.Lch
set_option linter.unusedSimpArgs false
set_option linter.unusedVariables false
namespace Go.Proofs.YthappngbapbkfaaGreat.Lcl
open Go.RowKit Sx Num Aff Afi Img Imh Rga Blend Ble Lsg Lta Lrd Lri Luc Lck Lgr Lcs Lst Lch
set_option maxRecDepth 100000
def opI (L:LsG):Nat->Int
 | 0=>0
 | i+1=>if (L.it i).kind=1 then opI L i+1 else if (L.it i).kind=2 then opI L i-1 else opI L i
def itE (L:LsG) (i:Nat):Int:=ciE (L.it i) L.ni (opI L i)
def nmE (L:LsG) (i:Nat):Int:=if ¬ isNm (L.nm i) then 6 else if 0<=ssX L.nm (L.nm i) i 0 then 7 else 0
def chkL (L:LsG):Int:=
 if L.w<1\/256<L.w\/L.h<1\/256<L.h then 3
 else if L.ni<1\/8<L.ni then 2
 else if fstE (nmE L) L.ni 0≠0 then fstE (nmE L) L.ni 0
 else if 5000<L.n then 2
 else if fstE (itE L) L.n 0≠0 then fstE (itE L) L.n 0
 else if 0<opI L L.n then 18 else 0
theorem ops (L:LsG):∀ i:Nat,-(i:Int)<=opI L i/\opI L i<=(i:Int)
 | 0=>by simp [opI]
 | i+1=>by
  have:=ops L i
  unfold opI
  split
  ·omega
  ·split<;>omega
def nmS (L:LsG):SV:= .sl L.ni 1 (fun i _=> .str (L.nm i))
def clI1 (L:LsG):Inv:=⟨Nat,fun i=>i<=L.ni/\fstE (nmE L) L.ni 0=fstE (nmE L) (L.ni-i) i,fun i=>⟨[(1,.own 0 0),(38,nmS L),(39,.int .i64 L.ni),(40,.int .i64 i)],[lsO L]⟩,fun i=>L.ni-i⟩
def clI2 (L:LsG):Inv:=⟨Nat,fun i=>i<=L.n/\fstE (itE L) L.n 0=fstE (itE L) (L.n-i) i,fun i=>⟨[(1,.own 0 0),(5,.int .i64 (opI L i)),(60,.sl L.n 34 (fun i=>lst (itL (L.it i)))),(61,.int .i64 L.n),(62,.int .i64 i)],[lsO L]⟩,fun i=>L.n-i⟩
def spLchk:FSpec:=aa5 7 (γ:=LsG) (fun | [.agg _ g]=>some (lsD g) | _=>none) (fun g=>[lsS g]) (fun g=>∀ i,i<g.n->(g.it i).nr<=9223372036854775807) (fun g=> .int .i64 (chkL g))
set_option maxHeartbeats 1000000 in
theorem ok_lchk:aa2 Tryz.prog spLchk:=by
 refine aa1 (specs:=[spName,spConS,spItem]) (aa9 (⟨ok_name,ok_conS,ok_item,trivial⟩)) (eqs:=[]) (fun _ _ h=>(List.not_mem_nil h).elim) Aff.mixed Tryz.func7 rfl (by kernel_rfl) (fun _ _=>by kernel_rfl) (fun g=>(⟨[(6,.inv (clI1 g)),(17,.inv (clI2 g))],[]⟩:Ann)) (fun g=>Nat.le_of_ble_eq_true (by kernel_rfl)) ?_
 rintro L hL
 refine ab5 (B:=let T3:=fun p:Prop=>True/\True/\True/\p;let T4:=fun p:Prop=>True/\True/\True/\True/\p;let T5:=fun p:Prop=>True/\True/\True/\True/\True/\p;let J:=Int.ofNat;let K:=Sx.Br;let A:=Sx.Ask;let z19:=(↑L.n:Int);let z18:=(0:Nat);let z17:=(0:Int);let z15:=((3:Int)=chkL L);let z12:=(9223372036854775807:Int);let z11:=(-9223372036854775808:Int);let z10:=(A (L.ni=L.ni)/\∀ i:Nat,i<L.ni->True/\A (L.nm i=L.nm i));let z9:=(1:Int);let z8:=(z18=z18);let z6:=(↑L.ni:Int);let z2:=(A (L.n=L.n)/\∀ i:Nat,i<L.n->(Lsg.qT True (L.it i) (L.it i)));let z1:=(IntKind.i64=IntKind.i64);let q1:=fun p:Int=>A z1/\A (p=p);let z14:=(True/\True/\A z1/\A ((2:Int)=chkL L));let z4:=(q1 z19);let z0:=((((True/\q1 L.w)/\q1 L.h)/\A (L.ni=L.ni)/\∀ i:Nat,i<L.ni->True/\A (L.nm i=L.nm i))/\A (L.n=L.n)/\∀ i:Nat,i<L.n->(Lsg.qT True (L.it i) (L.it i)));T5 (True/\K (decide (L.w<z9)) (T5 (True/\True/\A z1/\A z15)) (T5 (K (decide ((256:Int)<L.w)) (T5 (A z1/\A z15)) (T5 (K (decide (L.h<z9)) (T3 (A z1/\A z15)) (T4 (K (decide ((256:Int)<L.h)) (True/\True/\A z1/\A z15) (T5 (K (decide (z6<z9)) (T3 (A z1/\A ((2:Int)=chkL L))) (T5 (K (decide ((8:Int)<z6)) z14 (T4 ((∃ g:Nat,A ((clI1 L).pre g)/\(A z8/\z10/\(q1 z6)/\(A z1/\A (z17=(↑g:Int)))/\True)/\z0/\True)/\∀ g:Nat,let z13:=(↑g:Int);let z5:=(J g-J z18); (clI1 L).pre g->True/\K (decide (z13<z6)) (True/\A (z17<=z13/\z13<z6)/\T4 (((A (L.nm z13.toNat=L.nm z13.toNat)/\True)/\A True)/\True/\K (!decide (Lck.isNm (L.nm z13.toNat))) (True/\True/\A z1/\A ((6:Int)=chkL L)) (T3 (A (z17<=J z18/\J z18<=J g/\J g<=J L.ni/\J L.ni<=z6)/\True/\(((A (z5.toNat=z5.toNat)/\∀ i:Nat,i<z5.toNat->True/\A (L.nm ((J z18).toNat+i)=Lsg.strOf (Sx.SV.str (L.nm ((J z18).toNat+i)))))/\A (L.nm z13.toNat=L.nm z13.toNat)/\True)/\A (z5.toNat<=(1000:Nat)))/\K (decide (z17<=Lst.ssX (fun (i:Nat)=>Lsg.strOf (Sx.SV.str (L.nm ((J z18).toNat+i)))) (L.nm z13.toNat) z5.toNat z18)) (True/\True/\A z1/\A ((7:Int)=chkL L)) (A (z11<=z13+z9/\z13+z9<=z12)/\True/\∃ (g':Nat),A ((clI1 L).pre g')/\((A z8/\z10/\(q1 z6)/\(A z1/\A (z13+z9=(↑g':Int)))/\True)/\z0/\True)/\A ((clI1 L).meas g'<(clI1 L).meas g)))))) (T4 (K (decide ((5000:Int)<z19)) z14 (T5 ((∃ g:Nat,A ((clI2 L).pre g)/\(A z8/\(A z1/\A (z17=opI L g))/\z2/\z4/\(A z1/\A (z17=(↑g:Int)))/\True)/\z0/\True)/\∀ g:Nat,let z16:=(↑g:Int);let z7:=(L.it z16.toNat);let z3:=(z11<=z16+z9/\z16+z9<=z12); (clI2 L).pre g->True/\K (decide (z16<z19)) (A (z17<=z16/\z16<z19)/\T5 (T3 ((((Lsg.qT True z7 z7)/\(A z1/\A (z6=(↑z6.toNat:Int)))/\(q1 (opI L g))/\True)/\A (z6.toNat<=(8:Nat)/\z7.nr<=(9223372036854775807:Nat)))/\T3 (K (decide (Lch.ciE z7 z6.toNat (opI L g)≠z17)) (T3 (A z1/\A (Lch.ciE z7 z6.toNat (opI L g)=chkL L))) (T4 (K (decide (z7.kind=z9)) (True/\A (z11<=opI L g+z9/\opI L g+z9<=z12)/\True/\A z3/\True/\∃ (g':Nat),A ((clI2 L).pre g')/\((A z8/\(A z1/\A (opI L g+z9=opI L g'))/\z2/\z4/\(A z1/\A (z16+z9=(↑g':Int)))/\True)/\z0/\True)/\A ((clI2 L).meas g'<(clI2 L).meas g)) (True/\True/\K (decide (z7.kind=(2:Int))) (True/\A (z11<=opI L g-z9/\opI L g-z9<=z12)/\True/\A z3/\True/\∃ (g':Nat),A ((clI2 L).pre g')/\((A z8/\(A z1/\A (opI L g-z9=opI L g'))/\z2/\z4/\(A z1/\A (z16+z9=(↑g':Int)))/\True)/\z0/\True)/\A ((clI2 L).meas g'<(clI2 L).meas g)) (A z3/\True/\∃ (g':Nat),A ((clI2 L).pre g')/\((A z8/\(A z1/\A (opI L g=opI L g'))/\z2/\z4/\(A z1/\A (z16+z9=(↑g':Int)))/\True)/\z0/\True)/\A ((clI2 L).meas g'<(clI2 L).meas g))))))))) (True/\True/\K (decide (z17<opI L g)) (True/\True/\A z1/\A ((18:Int)=chkL L)) (True/\True/\A z1/\A (z17=chkL L))))))))))))))))))))) (by kernel_rfl) ?_
 delta Lsg.qG Lsg.qI Lsg.qM Lsg.qS Lsg.qT
 simp only [aa4,aa8,eq_self,true_and,and_true,implies_true,forall_const,decide_eq_true_eq,decide_eq_false_iff_not,ne_eq,Nat.mul_one,Nat.add_zero,Nat.zero_add]
 have enm:(fun i=>strOf (SV.str (L.nm ((Int.ofNat 0).toNat+i))))=L.nm:=funext fun i=>by
  show L.nm (0+i)=_
  rw [Nat.zero_add]
 simp only [enm,Int.toNat_natCast]
 have e1:(L.w<1\/256<L.w\/L.h<1\/256<L.h)->3=chkL L:=fun h=>by unfold chkL; rw [if_pos h]
 refine ⟨fun h=>e1 (.inl h),fun c1=>⟨fun h=>e1 (.inr (.inl h)),fun c2=>⟨fun h=>e1 (.inr (.inr (.inl h))),fun c3=>⟨fun h=>e1 (.inr (.inr (.inr h))),fun c4=>?_⟩⟩⟩⟩
 have d1:¬ (L.w<1\/256<L.w\/L.h<1\/256<L.h):=by omega
 have e2:(L.ni<1\/8<L.ni)->2=chkL L:=fun h=>by unfold chkL; rw [if_neg d1,if_pos h]
 refine ⟨fun h=>e2 (by omega),fun c5=>⟨fun h=>e2 (by omega),fun c6=>⟨⟨0,⟨Nat.zero_le _,rfl⟩,rfl⟩,fun q hq=>?_⟩⟩⟩
 have d2:¬ (L.ni<1\/8<L.ni):=by omega
 have e3:fstE (nmE L) L.ni 0≠0->fstE (nmE L) L.ni 0=chkL L:=fun h=>by unfold chkL; rw [if_neg d1,if_neg d2,if_pos h]
 obtain ⟨q1,q2⟩:q<=L.ni/\fstE (nmE L) L.ni 0=fstE (nmE L) (L.ni-q) q:=hq
 refine ⟨fun hlt=>?_,fun hge=>?_⟩
 ·have hlt:q<L.ni:=by omega
  rw [ay1 hlt] at q2
  have bad:∀ v:Int,nmE L q=v->v≠0->v=chkL L:=fun v h hv=>by
   have:fstE (nmE L) L.ni 0=v:=by rw [q2,if_neg (by rw [h]; exact hv),h]
   rw [<-e3 (by rw [this]; exact hv),this]
  have e4:(Int.ofNat q-Int.ofNat 0).toNat=q:=by simp
  rw [e4]
  have ha:((q:Int)=q):=rfl
  refine ⟨by omega,fun h=>bad 6 (if_pos (by simpa using h)) (by decide),fun h=>⟨⟨Int.le_refl _,by simp,by simp; omega,by simp⟩,⟨fun i _=>rfl,by omega⟩,fun h2=>bad 7 (by unfold nmE; rw [if_neg (by simpa using h),if_pos h2]) (by decide),fun h2=>⟨by omega,q+1,⟨hlt,?_⟩,by simp,(show L.ni-(q+1)<L.ni-q by omega)⟩⟩⟩
  rw [q2,if_pos (by unfold nmE; rw [if_neg (by simpa using h),if_neg h2])]
 ·have:q=L.ni:=by omega
  rw [this,Nat.sub_self] at q2
  have d3:¬ fstE (nmE L) L.ni 0≠0:=fun h=>h q2
  have e5:5000<L.n->2=chkL L:=fun h=>by unfold chkL; rw [if_neg d1,if_neg d2,if_neg d3,if_pos h]
  refine ⟨fun h=>e5 (by omega),fun c7=>⟨⟨0,⟨Nat.zero_le _,rfl⟩,rfl,rfl⟩,fun k hk=>?_⟩⟩
  have d4:¬ 5000<L.n:=by omega
  have e6:chkL L=if fstE (itE L) L.n 0≠0 then fstE (itE L) L.n 0 else if 0<opI L L.n then 18 else 0:=by unfold chkL; rw [if_neg d1,if_neg d2,if_neg d3,if_neg d4]
  obtain ⟨k1,k2⟩:k<=L.n/\fstE (itE L) L.n 0=fstE (itE L) (L.n-k) k:=hk
  refine ⟨fun hlt=>?_,fun hge=>?_⟩
  ·have hlt:k<L.n:=by omega
   rw [ay1 hlt] at k2
   have ho:=ops L k
   have st:itE L k=0->(clI2 L).pre (k+1):=fun h=>⟨hlt,by rw [k2,if_pos h]⟩
   have mm:(clI2 L).meas (k+1)<(clI2 L).meas k:=(show L.n-(k+1)<L.n-k by omega)
   have eo:opI L (k+1)=if (L.it k).kind=1 then opI L k+1 else if (L.it k).kind=2 then opI L k-1 else opI L k:=rfl
   refine ⟨by omega,⟨trivial,by omega,hL k hlt⟩,fun h=>?_,fun h=>⟨fun h1=>⟨by omega,by omega,k+1,st (Classical.not_not.1 h),⟨by rw [eo,if_pos h1],by simp⟩,mm⟩,fun h1=>⟨fun h2=>⟨by omega,by omega,k+1,st (Classical.not_not.1 h),⟨by rw [eo,if_neg h1,if_pos h2],by simp⟩,mm⟩,fun h2=>⟨by omega,k+1,st (Classical.not_not.1 h),⟨by rw [eo,if_neg h1,if_neg h2],by simp⟩,mm⟩⟩⟩⟩
   have h:¬ itE L k=0:=h
   have:fstE (itE L) L.n 0=itE L k:=by rw [k2,if_neg h]
   rw [e6,this,if_pos h]
   rfl
  ·have:k=L.n:=by omega
   subst this
   rw [Nat.sub_self] at k2
   rw [e6,if_neg (fun h=>h k2)]
   exact ⟨fun h=>by rw [if_pos h],fun h=>by rw [if_neg h]⟩
end Go.Proofs.YthappngbapbkfaaGreat.Lcl
namespace Go.Proofs
open Go.Shelf
def Tryz.a48:Go.Shelf.Ren:=⟨fun | 125=>78 | 128=>105 | 129=>106 | n=>n,fun | 46=>143 | 3=>3 | 51=>184 | 53=>186 | 4=>4 | 5=>5 | 9=>9 | n=>n,fun | n=>n⟩
theorem Tryz.lays125:Go.Proofs.Lays.n125 Tryz.prog Tryz.a48:={
  mixed:=by kernel_rfl
  f125:=Tryz.func78.trans (congrArg some (by kernel_rfl))
  f128:=Tryz.func105.trans (congrArg some (by kernel_rfl))
  f129:=Tryz.func106.trans (congrArg some (by kernel_rfl))
  t3:=Tryz.underlying3
  a3:=Tryz.isAgg3
  z3:=Tryz.sizeOf3
  v3:=Tryz.zeroValue3
  t4:=Tryz.underlying4
  a4:=Tryz.isAgg4
  z4:=Tryz.sizeOf4
  v4:=Tryz.zeroValue4
  t5:=Tryz.underlying5
  a5:=Tryz.isAgg5
  z5:=Tryz.sizeOf5
  v5:=Tryz.zeroValue5
  t9:=Tryz.underlying9
  a9:=Tryz.isAgg9
  z9:=Tryz.sizeOf9
  v9:=Tryz.zeroValue9
  t46:=Tryz.underlying143
  a46:=Tryz.isAgg143
  z46:=Tryz.sizeOf143
  v46:=Tryz.zeroValue143
  t51:=Tryz.underlying184
  a51:=Tryz.isAgg184
  z51:=Tryz.sizeOf184
  v51:=Tryz.zeroValue184
  t53:=Tryz.underlying186
  a53:=Tryz.isAgg186
  z53:=Tryz.sizeOf186
  v53:=Tryz.zeroValue186 }
theorem Tryz.bits_Len (x:Int) (w:World) (h0:0<=x) (h1:x<=18446744073709551615) :
  Calls Tryz.prog 78 #[.int .u64 x] w fun e w'=>e = .returned (.int .i64 (Lib.bitLen x.toNat))/\w'=w:=Any.bits_Len Tryz.lays125 x w h0 h1
end Go.Proofs
