/- Part 5 of the texts that the law's proof leans on. -/
import Derived.Test.YthappngbapbkfaaGreatM4
import Derived.ChangeKeysEq
import Derived.RangeFuncRecord
import Derived.RangeFuncSeq
import Derived.Test.YthappngbapbkfaaGreatRows
import Derived.Deep.QuietTactic
import Derived.BigQuiet
import Derived.WalkKit
import Derived.WalkSpells
import Derived.WalkLawsBesides
import Derived.Handy
import Derived.Lib.Hide
namespace Go.Proofs.YthappngbapbkfaaGreat.Sx
open Go.RowKit
def guards (ops:Array Oper) (i:Nat):Bool:=ops.toList.any fun o=>match o.guard with
 | some (j,_)=>j==i
 | none=>false
def Br (b:Bool) (p q:Prop):Prop:=match b with
 | true=>p
 | false=>q
theorem Br.of {b p q} (h:Br b p q):(b=true->p)/\(b=false->q):=by
 cases b with
 | true=>exact ⟨fun _=>h,fun h'=>by cases h'⟩
 | false=>exact ⟨fun h'=>(by cases h'),fun _=>h⟩
theorem aa8 {b p q}:Br b p q<->(b=true->p)/\(b=false->q):=by
 refine ⟨Br.of,fun h=>?_⟩
 cases b with
 | true=>exact h.1 rfl
 | false=>exact h.2 rfl
def vcDo (P:Program) (specs:List FSpec) (eqs:List (TypeId×List CK)) (N:Nat) (ops:Array Oper) (o:Oper) (i:Nat) (K:St->Prop) (s:St):Prop:=
 match evOp P specs eqs N s.τ s.H s.H.length o with
 | some y=>y.ask/\aO1 (au3 s.H y.eff) fun H=>force y.val fun v=>match v with
  | .bool b=>match guards ops i with
   | true=>Br b (K ⟨putT o.dst (.lit true) s.τ,H⟩) (K ⟨putT o.dst (.lit false) s.τ,H⟩)
   | false=>K ⟨putT o.dst (.bool b) s.τ,H⟩
  | v=>K ⟨putT o.dst v s.τ,H⟩
 | none=>False
def vcSkip (o:Oper) (K:St->Prop) (s:St):Prop:=K ⟨putT o.dst aE9 s.τ,s.H⟩
def aD0 (P:Program) (specs:List FSpec) (eqs:List (TypeId×List CK)) (N:Nat) (ops:Array Oper):List Oper->Nat->(St->Prop)->St->Prop
 | [],_,K,s=>K s
 | o::r,i,K,s=>match o.guard with
  | none=>vcDo P specs eqs N ops o i (aD0 P specs eqs N ops r (i+1) K) s
  | some (j,want)=>match gsv N ops s.τ j with
   | .lit b=>match b==want with
    | true=>vcDo P specs eqs N ops o i (aD0 P specs eqs N ops r (i+1) K) s
    | false=>vcSkip o (aD0 P specs eqs N ops r (i+1) K) s
   | .tup ..=>vcSkip o (aD0 P specs eqs N ops r (i+1) K) s
   | _=>False
theorem lit_of {w X E b c u} (h:b=c) (hr:R w X E (.bool b) u):R w X E (.lit c) u:=by
 subst h
 rw [aE3 hr]
 exact .lit
theorem vcDo_step {P specs eqs N ops o i K s} (hw:Want N ops s.τ o true) (h:vcDo P specs eqs N ops o i K s):∃ s',Step P specs eqs N ops o s s'/\K s':=by
 unfold vcDo at h
 cases hy:evOp P specs eqs N s.τ s.H s.H.length o with
 | none=>rw [hy] at h; exact h.elim
 | some y=>
  rw [hy] at h
  simp only [force_eq,as8] at h
  obtain ⟨ha,h⟩:=h
  have plain:∀ v,y.val=v->K ⟨putT o.dst v s.τ,au3 s.H y.eff⟩->∃ s',Step P specs eqs N ops o s s'/\K s':=by
   rintro v rfl hk
   exact ⟨_,.run hw hy ha (fun _ _ _ _ hr=>hr) (fun _ _ h=>h) (fun _ _ h=>h) (fun _ _ _ h=>h),hk⟩
  split at h
  ·rename_i b hb
   split at h
   ·cases hbb:b with
    | true=>exact ⟨_,.run (v:= .lit true) hw hy ha (fun w X E u hr=>lit_of hbb (hb▸hr)) (fun _ _ h=>by rw [hb] at h; cases h) (fun _ _ h=>by rw [hb] at h; cases h) (fun _ _ _ h=>by rw [hb] at h; cases h),h.of.1 hbb⟩
    | false=>exact ⟨_,.run (v:= .lit false) hw hy ha (fun w X E u hr=>lit_of hbb (hb▸hr)) (fun _ _ h=>by rw [hb] at h; cases h) (fun _ _ h=>by rw [hb] at h; cases h) (fun _ _ _ h=>by rw [hb] at h; cases h),h.of.2 hbb⟩
   ·exact plain _ hb h
  ·exact plain _ rfl h
theorem at1 {P specs eqs N ops}:∀ {l:List Oper}{i:Nat}{s:St}{K:St->Prop},aD0 P specs eqs N ops l i K s->∃ s',Tr P specs eqs N ops l s s'/\K s'
 | [],_,s,K,h=>⟨s,.nil,h⟩
 | o::r,i,s,K,h=>by
  have go:Want N ops s.τ o true->vcDo P specs eqs N ops o i (aD0 P specs eqs N ops r (i+1) K) s->∃ s',Tr P specs eqs N ops (o::r) s s'/\K s':=by
   intro hw h
   obtain ⟨s1,h1,h2⟩:=vcDo_step hw h
   obtain ⟨s',h3,h4⟩:=at1 h2
   exact ⟨s',.cons h1 h3,h4⟩
  have skip:Want N ops s.τ o false->vcSkip o (aD0 P specs eqs N ops r (i+1) K) s->∃ s',Tr P specs eqs N ops (o::r) s s'/\K s':=by
   intro hw h
   obtain ⟨s',h1,h2⟩:=at1 h
   exact ⟨s',.cons (.skip hw) h1,h2⟩
  simp only [aD0] at h
  cases hg:o.guard with
  | none=>
   rw [hg] at h
   exact go (by unfold Want; rw [hg]) h
  | some jw=>
   obtain ⟨j,want⟩:=jw
   rw [hg] at h
   simp only at h
   split at h
   ·rename_i b hb
    split at h
    ·rename_i hbw
     exact go (by unfold Want; rw [hg]; exact .inl ⟨b,by rw [hb]; rfl,hbw.symm⟩) h
    ·rename_i hbw
     exact skip (by unfold Want; rw [hg]; exact .inl ⟨b,by rw [hb]; rfl,hbw.symm⟩) h
   ·rename_i n g hb
    exact skip (by unfold Want; rw [hg]; exact .inr ⟨n,g,hb,rfl⟩) h
   ·exact h.elim
inductive SExit:Type
 | normal
 | exit (id:Nat)
 | ret
def SExit.lift:SExit->Exit
 | .normal=> .normal
 | .exit id=> .exit id
 | .ret=> .ret
abbrev SK:=SExit->St->Prop
def thenK (k:St->Prop) (K:SK):SK
 | .normal,s=>k s
 | e,s=>K e s
def blockK (id:Nat) (K:SK):SK
 | .exit i,s=>if i=id then K .normal s else K (.exit i) s
 | e,s=>K e s
structure NSpec:Type where
 f:FuncId
 run:List SV->Option (Prop×(Nat->SV)×(Nat->List SO))
def GoesL (w0:World) (X0:Fr) (H:List SO) (E:Env) (w:World) (new:List SO) (sv:SV) (v:Value) (w':World):Prop:=
 ∃ E':Env,E.le E'/\at0 (Xo X0 E H) w w'/\ab8 (Xo X0 E H) (Xo X0 E' (H++new)) w/\Rep w0 X0 (H++new) E' w'/\R w' (Xo X0 E' (H++new)) E' sv v
structure NewsOK (P:Program) (ns:NSpec):Prop where
 ent:∀ args w,(callFunc ns.f args).run P w = .ok (.enter ns.f args) w
 ok:∀ (l:List SV) (p:Prop) (res:Nat->SV) (new:Nat->List SO),ns.run l=some (p,res,new)->p->∀ (w0:World) (X0:Fr) (H:List SO) (E:Env) (w:World),Rep w0 X0 H E w->∀ (vals:Array Value),ap4 w (Xo X0 E H) E l vals->
  Calls P ns.f vals w fun e w'=>∃ v,e = .returned v/\GoesL w0 X0 H E w (new H.length) (res H.length) v w'
structure ISpec:Type where
 f:FuncId
 run:List SV->Option (Prop×Nat×(Nat->List SV))
structure ItOK (P:Program) (is:ISpec):Prop where
 ent:∀ args w,(callFunc is.f args).run P w = .ok (.enter is.f args) w
 ok:∀ (l:List SV) (p:Prop) (cnt:Nat) (its:Nat->List SV),is.run l=some (p,cnt,its)->p->∀ (w:World) (X:Nat->Prop) (vals:Array Value),ap4 w X E0 l vals->
  ∀ (lp:Nat) (J:Nat->(Nat->Prop)->World->Prop) (Jx:Nat->World->Prop),
   (∀ i B W W',J i B W->Below W.heap.size W W'->J i (fun b=>B b\/(W.heap.size<=b/\b<W'.heap.size)) W')->(∀ i W W',Jx i W->Below W.heap.size W W'->Jx i W')->
   (∀ i B W,J i B W->(w.heap.size<=W.heap.size/\∀ b,b<w.heap.size->¬ X b->W.heap[b]?=w.heap[b]?)/\∀ b,B b->b<W.heap.size)->
   (∀ i B W args,i<cnt->J i B W->ap4 W (fun b=>¬ B b/\(w.heap.size<=b\/X b)) E0 (its i) args->
    YieldAt Fence.wide 0 P lp args W fun e W'=>(e = .returned (.bool true)/\J (i+1) B W'/\∀ b,B b->W'.heap[b]?=W.heap[b]?)\/(e = .returned (.bool false)/\Jx i W'))->
   ∀ W,J 0 (fun _=>False) W->Calls P is.f (#[.func (.yield lp) #[] #[]]++vals) W fun e W'=>(∃ v,e = .returned v)/\((∃ B,J cnt B W')\/∃ i,i<cnt/\Jx i W')
structure Inv:Type 1 where
 γ:Type
 pre:γ->Prop
 st:γ->St
 meas:γ->Nat
inductive LoopA:Type 1
 | inv (I:Inv)
 | rounds (n:Nat)
 | cut (I:Inv)
 | nest (I:Inv) (sub:I.γ->List (Nat×LoopA))
 | steps (n:Nat) (I:Nat->St) (sub:Nat->List (Nat×LoopA))
 | iter (is:ISpec) (pre:Nat->Prop) (st:Nat->List SO) (sub:Nat->List (Nat×LoopA))
 | news (q:Nat) (s:NSpec)
 | order (l:List Nat)
 | hand (I:Inv) (Js:List Inv)
structure Ann:Type 1 where
 loops:List (Nat×LoopA)
 preps:List (Nat×List PrepA)
def aS2:List (Nat×LoopA)->Nat->Option LoopA
 | [],_=>none
 | (k,x)::r,i=>match x with
  | .cut _=>aS2 r i
  | x=>if k=i then some x else aS2 r i
def findC:List (Nat×LoopA)->Nat->Option Inv
 | [],_=>none
 | (k,x)::r,i=>match x with
  | .cut I=>if k=i then some I else findC r i
  | _=>findC r i
def aS1:List (Nat×List PrepA)->Nat->List PrepA
 | [],_=>[]
 | (k,x)::r,i=>if k=i then x else aS1 r i
def al4:Code->Option Nat
 | .region id _ _=>some id
 | .seq a b=>match al4 a with
  | some i=>some i
  | none=>al4 b
 | .cond _ a b=>match al4 a with
  | some i=>some i
  | none=>al4 b
 | .block _ c=>al4 c
 | .loop c=>al4 c
 | _=>none
def rounds (f:SK->St->Prop) (K:SK):Nat->St->Prop
 | 0,_=>False
 | n+1,s=>f (thenK (rounds f K n) K) s
def stepsK (W:Nat->St->Prop) (f:Nat->SK->Prop) (K:SK):Nat->Nat->St->Prop
 | 0,_,_=>False
 | n+1,k,s=>W k s/\f k (thenK (stepsK W f K n (k+1)) K)
def vcGo (P:Program) (specs:List FSpec) (eqs:List (TypeId×List CK)) (N:Nat) (ops:Array Oper) (d:Bool) (k:St->Prop) (s:St):Prop:=
 match d with
 | true=>aD0 P specs eqs N ops ops.toList 0 (fun s'=>match regB P (effS specs) s.H.length N s.τ s'.τ ops with
  | true=>k s'
  | false=>False) s
 | false=>aD0 P specs eqs N ops ops.toList 0 k s
def aE8 (m N:Nat) (k:St->Prop) (s:St):List PrepA->Prop
 | []=>k s
 | p::r=>match aq6 m N s (p::r) with
  | some s'=>k s'
  | none=>False
def vcNews (P:Program) (specs:List FSpec) (eqs:List (TypeId×List CK)) (N:Nat) (ops:Array Oper) (q:Nat) (ns:NSpec) (k:St->Prop) (s:St):Prop:=
 aD0 P specs eqs N ops (ops.toList.take q) 0 (fun s1=>match ops[q]? with
  | some o=>match o.guard with
   | some _=>False
   | none=>match o.op with
    | .call c=>match c.callee with
     | .value x=>match evO N s1.τ x with
      | .fn F n g=>match Nat.beq ns.f F with
       | true=>match ns.run (mapArgs N s1.τ c.args++(List.range n).map g) with
        | some r=>NewsOK P ns/\r.1/\aD0 P specs eqs N ops (ops.toList.drop (q+1)) 0 k ⟨putT o.dst (r.2.1 s1.H.length) s1.τ,s1.H++r.2.2 s1.H.length⟩
        | none=>False
       | false=>False
      | _=>False
     | _=>False
    | _=>False
  | none=>False) s
def opsOf (A:Ann) (id:Nat) (ops:Array Oper) (d:Bool):Array Oper:=match d with
 | false=>ops
 | true=>match aS2 A.loops (4000000+id) with
  | some (.order l)=>match permB l ops with
   | true=>ah1 l ops
   | false=>ops
  | _=>ops
def ba6 (P:Program) (specs:List FSpec) (eqs:List (TypeId×List CK)) (N m:Nat) (A:Ann) (id:Nat) (ops:Array Oper) (d:Bool) (k:St->Prop) (s:St):Prop:=
 match aS2 A.loops (3000000+id) with
 | some (.news q ns)=>match d with
  | true=>False
  | false=>vcNews P specs eqs N ops q ns (fun s=>aE8 m N k s (aS1 A.preps (1000000+id))) s
 | _=>
 match aS1 A.preps id with
 | .nilc t::r=>match nilAlt N s t with
  | some q=>(q.1=0->match aq6 m N q.2.1 r with
   | some s'=>vcGo P specs eqs N (opsOf A id ops d) d (fun s=>aE8 m N k s (aS1 A.preps (1000000+id))) s'
   | none=>False)/\match aq6 m N q.2.2 r with
   | some s'=>vcGo P specs eqs N (opsOf A id ops d) d (fun s=>aE8 m N k s (aS1 A.preps (1000000+id))) s'
   | none=>False
  | none=>False
 | l=>match aq6 m N s l with
  | some s'=>vcGo P specs eqs N (opsOf A id ops d) d (fun s=>aE8 m N k s (aS1 A.preps (1000000+id))) s'
  | none=>False
def meets (m:Nat) (I:Inv) (s:St):Prop:=∃ g,Ask (I.pre g)/\an0 m s.H (I.st g).H (StLe s (I.st g))
def ak6 (N m:Nat) (I:Inv) (Js:List Inv):Prop:=
 ∀ g,I.pre g->∀ (w0:World) (X0:Fr) (a:Act) (w:World),(∀ k,X0.nm k≠none->k<m)->StR w0 X0 N (I.st g) a w->∃ J∈Js,∃ h,J.pre h/\StR w0 X0 N (J.st h) a w
def allJ (k:St->Prop):List Inv->Prop
 | []=>True
 | J::r=>(∀ h,J.pre h->k (J.st h))/\allJ k r
theorem aU4 {k:St->Prop}:∀ {Js:List Inv},allJ k Js->∀ J∈Js,∀ h,J.pre h->k (J.st h)
 | [],_,J,hJ,_,_=>absurd hJ List.not_mem_nil
 | J0::r,h,J,hJ,g,hg=>by
  rcases List.mem_cons.1 hJ with rfl | hJ
  ·exact h.1 g hg
  ·exact aU4 h.2 J hJ g hg
def aB5 (N m:Nat) (A:Ann) (id:Nat) (k:St->Prop):St->Prop:=
 match aS2 A.loops (6000000+id) with
 | some (.hand I Js)=>fun s=>ak6 N m I Js/\meets m I s/\allJ k Js
 | _=>k
theorem vcBack_get {N m:Nat}{A:Ann}{id:Nat}{k:St->Prop}{s:St}(h:aB5 N m A id k s) {w0:World}{X0:Fr}{a:Act}{w:World}(hnm:∀ k,X0.nm k≠none->k<m) (hs:StR w0 X0 N s a w)
  (hmeets:∀ {I:Inv}{s:St},meets m I s->StR w0 X0 N s a w->∃ g,I.pre g/\StR w0 X0 N (I.st g) a w):∃ s',k s'/\StR w0 X0 N s' a w:=by
 unfold aB5 at h
 cases hf:aS2 A.loops (6000000+id) with
 | none=>rw [hf] at h; exact ⟨s,h,hs⟩
 | some x=>
  rw [hf] at h
  cases x with
  | hand I Js=>
   obtain ⟨hok,hmeet,hall⟩:=h
   obtain ⟨g,hg,hs2⟩:=hmeets hmeet hs
   obtain ⟨J,hJ,j,hj,hs3⟩:=hok g hg w0 X0 a w hnm hs2
   exact ⟨_,aU4 hall J hJ j hj,hs3⟩
  | _=>exact ⟨s,h,hs⟩
def vcReg (P:Program) (specs:List FSpec) (eqs:List (TypeId×List CK)) (N m:Nat) (A:Ann) (id:Nat) (ops:Array Oper) (d:Bool) (k:St->Prop) (s:St):Prop:=
 match aS2 A.loops (5000000+id) with
 | some (.hand I Js)=>ak6 N m I Js/\meets m I s/\allJ (ba6 P specs eqs N m A id ops d (aB5 N m A id k)) Js
 | _=>ba6 P specs eqs N m A id ops d (aB5 N m A id k) s
def cutOf (A:Ann) (b:Code):Option Inv:=match al4 b with
 | some i=>findC A.loops i
 | none=>none
def ao1:SV->SV
 | .osl ..=> .any
 | .ownAt ..=> .any
 | .win ..=> .any
 | .part ..=> .any
 | .omap _=> .any
 | .agg n g=> .agg n (fun i=>ao1 (g i))
 | .tup n g=> .tup n (fun i=>ao1 (g i))
 | .fn f n g=> .fn f n (fun i=>ao1 (g i))
 | .fnb f n g=> .fnb f n (fun i=>ao1 (g i))
 | .slP n g=> .slP n (fun i=>ao1 (g i))
 | .refP g=> .refP (fun i=>ao1 (g i))
 | .ifc T g=> .ifc T (fun i=>ao1 (g i))
 | s=>s
def aw5:Tmps->Tmps
 | []=>[]
 | (t,s)::r=>(t,ao1 s)::aw5 r
def bindT:List Nat->List SV->Tmps->Tmps
 | p::ps,s::l,τ=>bindT ps l ((p,s)::τ)
 | _,_,τ=>τ
def assignK (k:St->Prop):SK
 | .normal,s=>k s
 | _,_=>False
def iterK (m:Nat) (τ0:Tmps) (pre:Nat->Prop) (st:Nat->List SO) (i:Nat) (K:SK):SK
 | .normal,s=>NmLe m (st i) s.H/\Ask (pre (i+1))/\an0 m s.H (st (i+1)) (StLe ⟨τ0,s.H⟩ ⟨τ0,st (i+1)⟩)
 | e,s=>NmLe m (st i) s.H/\K e ⟨τ0,s.H⟩
def vc (P:Program) (specs:List FSpec) (eqs:List (TypeId×List CK)) (N m:Nat) (r:Bool):Ann->Code->SK->St->Prop
 | _,.skip,K,s=>K .normal s
 | _,.label _,K,s=>K .normal s
 | A,.region id ops d,K,s=>vcReg P specs eqs N m A id ops d (K .normal) s
 | A,.seq a b,K,s=>match cutOf A b with
  | none=>vc P specs eqs N m r A a (thenK (vc P specs eqs N m r A b K) K) s
  | some I=>vc P specs eqs N m r A a (thenK (meets m I) K) s/\∀ g,I.pre g->vc P specs eqs N m r A b K (I.st g)
 | A,.cond c x y,K,s=>match evO N s.τ c with
  | .bool b=>Br b (vc P specs eqs N m r A x K s) (vc P specs eqs N m r A y K s)
  | .lit b=>match b with
   | true=>vc P specs eqs N m r A x K s
   | false=>vc P specs eqs N m r A y K s
  | _=>False
 | A,.block id c,K,s=>vc P specs eqs N m r A c (blockK id K) s
 | A,.loop c,K,s=>match al4 c with
  | some i=>match aS2 A.loops i with
   | some (.inv I)=>(∃ g,Ask (I.pre g)/\an0 m s.H (I.st g).H (StLe s (I.st g)))/\∀ g,I.pre g->vc P specs eqs N m r A c (thenK (fun s'=>∃ g',Ask (I.pre g')/\an0 m s'.H (I.st g').H (StLe s' (I.st g')/\Ask (I.meas g'<I.meas g))) K) (I.st g)
   | some (.nest I sub)=>(∃ g,Ask (I.pre g)/\an0 m s.H (I.st g).H (StLe s (I.st g)))/\∀ g,I.pre g->vc P specs eqs N m r ⟨sub g++A.loops,A.preps⟩ c (thenK (fun s'=>∃ g',Ask (I.pre g')/\an0 m s'.H (I.st g').H (StLe s' (I.st g')/\Ask (I.meas g'<I.meas g))) K) (I.st g)
   | some (.rounds n)=>rounds (vc P specs eqs N m r A c) K n s
   | some (.steps n I sub)=>stepsK (fun k s=>an0 m s.H (I k).H (StLe s (I k))) (fun k K=>vc P specs eqs N m r ⟨sub k++A.loops,A.preps⟩ c K (I k)) K n 0 s
   | _=>False
  | none=>False
 | A,.rangeFunc g ps assign body,K,s=>match r with
  | true=>False
  | false=>match evO N s.τ g with
   | .fn f n cg=>match al4 (.seq assign body) with
    | some i=>match aS2 A.loops i with
     | some (.iter is pre st sub)=>match Nat.beq is.f f&&((List.range n).map cg).all (ac3 6) with
      | true=>match is.run ((List.range n).map cg) with
       | some q=>ItOK P is/\q.1/\(Ask (pre 0)/\an0 m s.H (st 0) (StLe ⟨aw5 s.τ,s.H⟩ ⟨aw5 s.τ,st 0⟩))/\
        (∀ i,i<q.2.1->pre i->match Nat.beq (q.2.2 i).length ps.size with
         | true=>vc P specs eqs N (st i).length true ⟨sub i++A.loops,A.preps⟩ assign (assignK fun s1=>vc P specs eqs N (st i).length true ⟨sub i++A.loops,A.preps⟩ body (iterK m (aw5 s.τ) pre st i K) s1) ⟨bindT ps.toList (q.2.2 i) (aw5 s.τ),st i⟩
         | false=>False)/\(pre q.2.1->K .normal ⟨aw5 s.τ,st q.2.1⟩)
       | none=>False
      | false=>False
     | _=>False
    | none=>False
   | _=>False
 | _,.exit id,K,s=>K (.exit id) s
 | _,.ret,K,s=>K .ret s
 | _,_,_,_=>False
def codeB (_:Option FuncId->Bool) (_:Code):Bool:=true
def ar1 (w w':World):Prop:=∀ (b:Nat) (o:Obj),w.heap[b]?=some o->(∀ ds,o≠Obj.deferred ds)->(∀ r,o≠Obj.loop r)->w'.heap[b]?=some o
theorem ar1.cells {w w':World}(h:ar1 w w') {b:Nat}{c:Array Value}{T:TypeId}{fr:Nat×Nat}(hb:w.heap[b]?=some (.cells c T fr)):w'.heap[b]?=some (.cells c T fr):=h b _ hb (fun _ hc=>by cases hc) (fun _ hc=>by cases hc)
theorem ar1.trans {a b c:World}(h:ar1 a b) (k:ar1 b c):ar1 a c:=fun i o hi h1 h2=>k i o (h i o hi h1 h2) h1 h2
theorem ar1.putObj {w:World}{D:Nat}{o o':Obj}(hb:w.heap[D]?=some o) (ho:(∃ ds,o = .deferred ds)\/∃ r,o = .loop r):ar1 w (w.putObj D o'):=by
 intro b x hx h1 h2
 have hne:b≠D:=fun hc=>by
  subst hc
  rw [hb] at hx
  cases hx
  rcases ho with ⟨ds,rfl⟩ | ⟨r,rfl⟩
  ·exact h1 ds rfl
  ·exact h2 r rfl
 exact (World.putObj_heap_other hne).trans hx
theorem R.turn {w w':World}(hk:ar1 w w') {X:Nat->Prop}{E:Env}{sv:SV}{v:Value}(h:R w X E sv v):R w' X E sv v:=by
 induction h with
 | any=>exact .any
 | int=>exact .int
 | bool=>exact .bool
 | lit=>exact .lit
 | str=>exact .str
 | nilfn=>exact .nilfn
 | cap0=>exact .cap0
 | fn hs _ ih=>exact .fn hs ih
 | fnb hs _ ih=>exact .fnb hs ih
 | agg hs ho _ ih=>exact .agg hs ho ih
 | tup hs _ ih=>exact .tup hs ih
 | sl0=>exact .sl0
 | sl hb hX hc hl ho _ ih=>exact .sl (hk.cells hb) hX hc hl ho ih
 | ref hb hX hc ho _ ih=>exact .ref (hk.cells hb) hX hc ho ih
 | own h=>exact .own h
 | osl h hv=>exact .osl h hv
 | oslOld h hl hv=>exact .oslOld h hl hv
 | ownAt h=>exact .ownAt h
 | ownAtOld h hl hv=>exact .ownAtOld h hl hv
 | win h hl ha h0=>exact .win h hl ha h0
 | nilsl=>exact .nilsl
 | con=>exact .con
 | pin h=>exact .pin h
 | part h hl=>exact .part h hl
 | partOld h hl hv=>exact .partOld h hl hv
 | slP hb hX hc hl ho _ ih=>exact .slP (hk.cells hb) hX hc hl ho ih
 | refP hb hX hc ho _ ih=>exact .refP (hk.cells hb) hX hc ho ih
 | ifc ho _ ih=>exact .ifc ho ih
 | omap h=>exact .omap h
 | omapOld h hl=>exact .omapOld h hl
 | slN _ ih=>exact .slN ih
 | winOld h hl hv=>exact .winOld h hl hv
theorem ah4.turn {w w':World}(hk:ar1 w w') {T n v len xs} (h:ah4 w T n v len xs):ah4 w' T n v len xs:=by
 rcases h with h | ⟨b,cap,cur,rfl,h1,h2⟩
 ·exact .inl h
 ·exact .inr ⟨b,cap,cur,rfl,hk.cells h1,h2⟩
theorem EIok.turn {w w':World}(hk:ar1 w w') {X:Nat->Prop}{E:Env}{e:EI}{so:SO}(h:EIok w X E e so):EIok w' X E e so:=by
 cases so with
 | dead=>cases e<;>trivial
 | cells n g T=>
  cases e with
  | slc=>exact h
  | blk b=>
   obtain ⟨vs,h1,h2,h3⟩:=h
   exact ⟨vs,hk.cells h1,h2,fun i hi=>⟨(h3 i hi).1,(h3 i hi).2.turn hk⟩⟩
 | scells n g=>
  cases e with
  | slc=>exact h
  | blk b=>
   obtain ⟨vs,T,fr,h1,h2,h3,h4⟩:=h
   exact ⟨vs,T,fr,hk.cells h1,h2,h3,fun i hi=>⟨(h4 i hi).1,(h4 i hi).2.turn hk⟩⟩
 | row ver len n g T=>
  cases e with
  | blk=>exact h
  | slc ver' v=>
   obtain ⟨h1,xs,h2,h3⟩:=h
   exact ⟨h1,xs,h2.turn hk,fun i j hi hj=>⟨(h3 i j hi hj).1,(h3 i j hi hj).2.turn hk⟩⟩
 | srow ver len n g=>
  cases e with
  | blk=>exact h
  | slc ver' v=>exact ⟨h.1,h.2.turn hk⟩
 | deep ver len n c m p g T T' ho=>
  cases e with
  | blk=>exact h
  | slc ver' v us=>
   obtain ⟨h1,xs,d⟩:=h
   refine ⟨h1,xs,d.pos,d.own.turn hk,fun i j hi h0 hj=>⟨(d.rest i j hi h0 hj).1,(d.rest i j hi h0 hj).2.turn hk⟩,fun i sv hi hh=>⟨(d.out i sv hi hh).1,(d.out i sv hi hh).2.turn hk⟩,fun i hi hh=>?_,d.apart,d.inj⟩
   obtain ⟨g1,ys,g2,g3⟩:=d.inn i hi hh
   exact ⟨g1,ys,g2.turn hk,fun i' j hi' hj=>⟨(g3 i' j hi' hj).1,(g3 i' j hi' hj).2.turn hk⟩⟩
 | mpi kk tot has val=>
  cases e with
  | blk=>exact h
  | slc ver' v us=>
   obtain ⟨h1,b,es,clock,rfl,h2,h3,h4,h5⟩:=h
   exact ⟨h1,b,es,clock,rfl,hk b _ h2 (fun _ hc=>by cases hc) (fun _ hc=>by cases hc),h3,fun l e hl he hk'=>(h4 l e hl he hk').turn hk,fun ht l hl hh=>(h5 ht l hl hh).turn hk⟩
 | mps kd has c m p T' ho=>
  cases e with
  | blk=>exact h
  | slc ver' v us=>
   obtain ⟨h1,b,es,clock,rfl,h2,d⟩:=h
   refine ⟨h1,b,es,clock,rfl,hk b _ h2 (fun _ hc=>by cases hc) (fun _ hc=>by cases hc),d.map,fun y e he hk' hh=>?_,d.gone,fun hy sv fl hho=>?_,d.inj⟩
   ·obtain ⟨g1,ys,g2,g3⟩:=d.inn y e he hk' hh
    exact ⟨g1,ys,g2.turn hk,fun i' j hi' hj=>⟨(g3 i' j hi' hj).1,(g3 i' j hi' hj).2.turn hk⟩⟩
   ·obtain ⟨g1,g2,g3⟩:=d.out hy sv fl hho
    exact ⟨g1,fun e he hk'=>(g2 e he hk').turn hk,fun hz=>(g3 hz).turn hk⟩
 | cus Q=>
  cases e with
  | slc=>exact h
  | blk=>exact Q.mono (fun b c T fr hc _=>hk.cells hc) (fun _ _ hb=>hb) h
theorem Bel.turn {D:Nat->Prop}{w0 w:World}(h:Bel D w0 w) {b:Nat}(hb:w0.heap.size<=b) (o:Obj):Bel D w0 (w.putObj b o):=
 ⟨h.os,h.tape,h.output,by rw [World.putObj_size]; exact h.size,fun k hk hd=>(World.putObj_heap_other (by omega)).trans (h.block k hk hd)⟩
theorem Rep.turn {w0 X0 H E w} (h:Rep w0 X0 H E w) {b:Nat}{o o':Obj}(hb:w0.heap.size<=b) (ho:w.heap[b]?=some o) (hd:(∃ ds,o = .deferred ds)\/∃ r,o = .loop r):Rep w0 X0 H E (w.putObj b o'):=
 ⟨h.below.turn hb o',h.x0,h.nm,h.dom,fun k e he=>(h.ok k e he).turn (ar1.putObj ho hd),h.low,h.inj⟩
theorem ba0 {w w':World}{X X':Nat->Prop}(hk:at0 X w w') (hx:ab8 X X' w) {E:Env}{sv:SV}{v:Value}(h:R w X E sv v) :
  ∀ {E':Env},(∀ k b,E k=some (.blk b)->E' k=some (.blk b))->R w' X' E' (ao1 sv) v:=by
 induction h with
 | any=>intro E' _; exact .any
 | int=>intro E' _; exact .int
 | bool=>intro E' _; exact .bool
 | lit=>intro E' _; exact .lit
 | str=>intro E' _; exact .str
 | nilfn=>intro E' _; exact .nilfn
 | cap0=>intro E' _; exact .cap0
 | fn hs _ ih=>intro E' le; exact .fn hs fun i hi=>ih i hi le
 | fnb hs _ ih=>intro E' le; exact .fnb hs fun i hi=>ih i hi le
 | agg hs ho _ ih=>intro E' le; exact .agg hs ho fun i hi=>ih i hi le
 | tup hs _ ih=>intro E' le; exact .tup hs fun i hi=>ih i hi le
 | sl0=>intro E' _; exact .sl0
 | sl hb hX hc hl ho hr=>
  intro E' _
  have hlt:=lt_of_block hb
  exact .sl ((hk _ hlt hX).trans hb) (fun hx'=>hX (hx _ hlt hx')) hc hl ho fun i j hi hj=>(hr i j hi hj).mono hk hx (Env.le_refl _)
 | ref hb hX hc ho hr=>
  intro E' _
  have hlt:=lt_of_block hb
  exact .ref ((hk _ hlt hX).trans hb) (fun hx'=>hX (hx _ hlt hx')) hc ho fun j hj=>(hr j hj).mono hk hx (Env.le_refl _)
 | own h=>intro E' le; exact .own (le _ _ h)
 | osl=>intro E' _; exact .any
 | oslOld=>intro E' _; exact .any
 | ownAt=>intro E' _; exact .any
 | ownAtOld=>intro E' _; exact .any
 | win=>intro E' _; exact .any
 | con=>intro E' _; exact .con
 | pin h=>intro E' le; exact .pin (le _ _ h)
 | part=>intro E' _; exact .any
 | partOld=>intro E' _; exact .any
 | slP hb hX hc hl ho _ ih=>
  intro E' le
  have hlt:=lt_of_block hb
  exact .slP ((hk _ hlt hX).trans hb) (fun hx'=>hX (hx _ hlt hx')) hc hl ho fun i hi=>ih i hi le
 | refP hb hX hc ho _ ih=>
  intro E' le
  have hlt:=lt_of_block hb
  exact .refP ((hk _ hlt hX).trans hb) (fun hx'=>hX (hx _ hlt hx')) hc ho (ih le)
 | ifc ho _ ih=>intro E' le; exact .ifc ho (ih le)
 | omap=>intro E' _; exact .any
 | omapOld=>intro E' _; exact .any
 | nilsl=>intro E' _; exact .nilsl
 | slN _ ih=>intro E' le; exact .slN (ih le)
 | winOld=>intro E' _; exact .any
theorem a13 (s:SV):ao1 (ao1 s)=ao1 s:=by
 induction s with
 | agg n g ih=>simp only [ao1,ih]
 | tup n g ih=>simp only [ao1,ih]
 | fn f n g ih=>simp only [ao1,ih]
 | fnb f n g ih=>simp only [ao1,ih]
 | slP n g ih=>simp only [ao1,ih]
 | refP g ih=>simp only [ao1,ih]
 | ifc T g ih=>simp only [ao1,ih]
 | _=>rfl
theorem args_pure0 {w X E} {ss:List SV}{vs:Array Value}(h:ap4 w X E ss vs) (hp:ss.all (ac3 6)=true):∀ i,i<ss.length->R w X E0 (ss.getD i .any) (vs.getD i undef):=fun i hi=>by
 refine ad8 6 _ _ ?_ (h.2 i hi)
 rw [List.getD_eq_getElem?_getD,List.getElem?_eq_getElem hi]
 exact List.all_eq_true.1 hp _ (List.getElem_mem hi)
theorem Rep.turnBoth {w0 X0 H E w} (h:Rep w0 X0 H E w) {b:Nat}{r r':Loop}{o:Obj}(hb0:w0.heap[b]?=some (.loop r)) (hb:w.heap[b]?=some (.loop r')):Rep (w0.putObj b o) X0 H E (w.putObj b o):=by
 refine ⟨⟨h.below.os,h.below.tape,h.below.output,by rw [World.putObj_size,World.putObj_size]; exact h.below.size,fun k hk hd=>?_⟩,fun _ hx=>by rw [World.putObj_size]; exact h.x0 _ hx,h.nm,h.dom,fun k e he=>(h.ok k e he).turn (ar1.putObj hb (.inr ⟨_,rfl⟩)),fun k e b he hh=>by rw [World.putObj_size]; exact h.low k e b he hh,h.inj⟩
 rw [World.putObj_size] at hk
 by_cases hkb:k=b
 ·subst hkb
  rw [World.putObj_heap_same (lt_of_block hb),World.putObj_heap_same hk]
 ·rw [World.putObj_heap_other hkb,World.putObj_heap_other hkb]
  exact h.below.block k hk hd
theorem aq2:∀ (τ:Tmps) (t:Nat),ac8 (aw5 τ) t=ao1 (ac8 τ t)
 | [],t=>rfl
 | (u,s)::r,t=>by
  simp only [aw5,ac8]
  split
  ·rfl
  ·exact aq2 r t
def reb (X0:Fr) (H:List SO) (E:Env):Fr:=⟨X0.x,fun b=>∃ k e,E k=some e/\holds e (H.getD k .dead) b,E,false⟩
theorem Rep.rebase {w0 X0 H E w} (h:Rep w0 X0 H E w):Rep w (reb X0 H E) H E w:=by
 refine ⟨Bel.refl _ _,fun b hb=>⟨Nat.lt_of_lt_of_le (h.x0 b hb).1 h.below.size,?_⟩,fun k e he=>?_,h.dom,h.ok,fun k e b he hb=> .inr ⟨k,e,he,hb⟩,h.inj⟩
 ·rintro ⟨k,e,he,hh⟩
  rcases h.low k e b he hh with h1 | h1
  ·have:=(h.x0 b hb).1; omega
  ·exact (h.x0 b hb).2 h1
 ·cases e with
  | blk b=>exact he
  | slc ver v us=>exact ⟨ver,v,us,he,fun _=>rfl⟩
theorem nm_blk {E E':Env}(h:∀ k e,E k=some e->NmOK e (E' k)):∀ k b,E k=some (.blk b)->E' k=some (.blk b):=fun k b he=>h k _ he
theorem Rep.unbase {w0 X0 H E w} (h:Rep w0 X0 H E w) {H' E' w'} (h':Rep w (reb X0 H E) H' E' w') {m:Nat}(hnm:∀ k,X0.nm k≠none->k<m) (hm:NmLe m H H') :
  Rep w0 X0 H' E' w'/\(∀ b,b<w.heap.size->Xo X0 E' H' b->Xo X0 E H b)/\at0 (Xo X0 E H) w w'/\∀ k b,E k=some (.blk b)->E' k=some (.blk b):=by
 have hold:∀ b,b<w.heap.size->Xo X0 E' H' b->Xo X0 E H b:=by
  rintro b hb (hx | ⟨k,e,he,hh⟩)
  ·exact .inl hx
  ·rcases h'.low k e b he hh with h1 | h1
   ·omega
   ·exact .inr h1
 refine ⟨⟨⟨h'.below.os.trans h.below.os,h'.below.tape.trans h.below.tape,h'.below.output.trans h.below.output,Nat.le_trans h.below.size h'.below.size,fun k hk hd=>?_⟩,h.x0,fun k e he=>?_,h'.dom,h'.ok,fun k e b he hb=>?_,h'.inj⟩,hold,fun b hb hX=>h'.below.block b hb fun hd=>hX (.inr hd),nm_blk h'.nm⟩
 ·refine (h'.below.block k (Nat.lt_of_lt_of_le hk h.below.size) ?_).trans (h.below.block k hk hd)
  rintro ⟨j,e,he,hh⟩
  rcases h.low j e k he hh with h1 | h1
  ·omega
  ·exact hd h1
 ·have h1:=h.nm k e he
  cases e with
  | blk b=>exact h'.nm k _ h1
  | slc ver0 v us=>
   obtain ⟨ver1,v1,us1,e1,q1⟩:=h1
   obtain ⟨ver2,v2,us2,e2,q2⟩:=h'.nm k _ e1
   refine ⟨ver2,v2,us2,e2,fun hz=>(q2 hz).trans (q1 ?_)⟩
   have hv:=hm.get.2 k (hnm k (by rw [he]; simp))
   have ho:=h.ok k _ e1
   have ho':=h'.ok k _ e2
   have hver:ag2 (H'.getD k .dead)≠none->ag2 (H'.getD k .dead)=some ver2:=fun hne=>by
    cases hr:ag2 (H'.getD k .dead) with
    | none=>exact absurd hr hne
    | some ver3=>rw [an6 ho' hr]
   have key:∀ v0:Nat,v0=ver1->(match ag2 (H'.getD k .dead) with | some (_+1)=>true | _=>Nat.beq v0 0)=true->ver1=0:=by
    rintro v0 rfl hb
    cases hr:ag2 (H'.getD k .dead) with
    | none=>rw [hr] at hb; exact Nat.eq_of_beq_eq_true hb
    | some ver3=>
     have:=hver (by rw [hr]; simp)
     rw [hr] at this
     cases this
     subst hz
     rw [hr] at hb
     exact Nat.eq_of_beq_eq_true hb
   cases hH:H.getD k .dead with
   | dead=>rw [hH] at hv; cases hv
   | cells=>rw [hH] at ho; exact ho.elim
   | scells=>rw [hH] at ho; exact ho.elim
   | row=>rw [hH] at hv ho; exact key _ ho.1.symm hv
   | srow=>rw [hH] at hv ho; exact key _ ho.1.symm hv
   | deep=>rw [hH] at hv ho; exact key _ ho.1.symm hv
   | mpi=>rw [hH] at ho; exact ho.1
   | mps=>rw [hH] at ho; exact ho.1
   | cus=>rw [hH] at hv; cases hv
 ·rcases h'.low k e b he hb with h1 | ⟨j,e0,he0,hh⟩
  ·exact .inl (Nat.le_trans h.below.size h1)
  ·exact h.low j e0 b he0 hh
theorem a61 {w:World}{X:Nat->Prop}{E:Env}{e:EI}{so:SO}(h:EIok w X E e so) {b:Nat}(hb:holds e so b):(∃ c T fr,w.heap[b]?=some (.cells c T fr))\/∃ es clock,w.heap[b]?=some (.map es clock):=by
 have own:∀ {T n v len xs},ah4 w T n v len xs->ad1 v=some b->∃ c T fr,w.heap[b]?=some (.cells c T fr):=by
  rintro T n v len xs (⟨a,rfl,_⟩ | ⟨b',cap,cur,rfl,h4,_⟩) hb
  ·cases a<;>simp [ad1] at hb
  ·simp only [ad1,Option.some.injEq] at hb
   subst hb
   exact ⟨_,_,_,h4⟩
 cases so with
 | dead=>cases e<;>simp [holds] at hb
 | cells n g T=>
  cases e with
  | slc=>exact h.elim
  | blk b'=>
   simp only [holds] at hb
   subst hb
   obtain ⟨vs,h1,_⟩:=h
   exact .inl ⟨_,_,_,h1⟩
 | scells n g=>cases e<;>simp [holds] at hb
 | row ver len n g T=>
  cases e with
  | blk=>exact h.elim
  | slc ver' v=>
   obtain ⟨h1,xs,h2,h3⟩:=h
   exact .inl (own h2 hb)
 | srow ver len n g=>cases e<;>simp [holds] at hb
 | deep ver len n c m p g T T' ho=>
  cases e with
  | blk=>exact h.elim
  | slc ver' v us=>
   obtain ⟨h1,xs,d⟩:=h
   rcases hb with hb | ⟨i,hi,hh,hu⟩
   ·exact .inl (own d.own hb)
   ·obtain ⟨g1,ys,g2,g3⟩:=d.inn i hi hh
    exact .inl (own g2 (g1.trans hu))
 | mpi kk tot has val=>
  cases e with
  | blk=>exact h.elim
  | slc ver' v us=>
   obtain ⟨h1,b',es,clock,rfl,h2,_⟩:=h
   simp only [holds,mblk,Option.some.injEq] at hb
   subst hb
   exact .inr ⟨_,_,h2⟩
 | mps kd has c m p T' ho=>
  cases e with
  | blk=>exact h.elim
  | slc ver' v us=>
   obtain ⟨h1,b',es,clock,rfl,h2,d⟩:=h
   rcases hb with hb | ⟨y,hh,hu⟩
   ·simp only [mblk,Option.some.injEq] at hb
    subst hb
    exact .inr ⟨_,_,h2⟩
   ·cases hy:has y with
    | false=>rw [(d.gone y hy).2] at hu; cases hu
    | true=>
     obtain ⟨e,he,hke⟩:=(d.map.iff [y] rfl).1 hy
     obtain ⟨g1,ys,g2,g3⟩:=d.inn y e he hke hh
     exact .inl (own g2 (g1.trans hu))
 | cus Q=>
  cases e with
  | slc=>exact h.elim
  | blk=>exact .inl (Q.lt h hb)
theorem Rep.ax0 {w0 X0 H E w} (h:Rep w0 X0 H E w) {b:Nat}{o:Obj}(hb:w.heap[b]?=some o) (ho:(∃ ds,o = .deferred ds)\/∃ r,o = .loop r):¬ ∃ k e,E k=some e/\holds e (H.getD k .dead) b:=by
 rintro ⟨k,e,he,hh⟩
 rcases a61 (h.ok k e he) hh with ⟨c,T,fr,hc⟩ | ⟨es,clock,hc⟩
 ·rw [hb] at hc
  cases hc
  rcases ho with ⟨ds,hc⟩ | ⟨r,hc⟩<;>cases hc
 ·rw [hb] at hc
  cases hc
  rcases ho with ⟨ds,hc⟩ | ⟨r,hc⟩<;>cases hc
theorem aJ7 {w:World}{X:Nat->Prop}{E:Env}{N:Nat}:∀ (ps:List Nat) (l:List SV) (vs:List Value) (τ:Tmps) (tm:Array Value),ps.length=l.length->vs.length=l.length->(∀ i,i<l.length->R w X E (l.getD i .any) (vs.getD i undef))->
  tm.size=N->(∀ t,t<N->R w X E (ac8 τ t) (tm.getD t undef))->
  ((ps.zip vs).foldl (fun t (p,v)=>t.setIfInBounds p v) tm).size=N/\∀ t,t<N->R w X E (ac8 (bindT ps l τ) t) (((ps.zip vs).foldl (fun t (p,v)=>t.setIfInBounds p v) tm).getD t undef)
 | [],l,vs,τ,tm,_,_,_,hs,ht=>⟨hs,fun t h=>by cases l<;>exact ht t h⟩
 | p::ps,[],vs,τ,tm,h1,_,_,hs,ht=>by simp at h1
 | p::ps,s::l,[],τ,tm,_,h2,_,hs,ht=>by simp at h2
 | p::ps,s::l,v::vs,τ,tm,h1,h2,hr,hs,ht=>by
  simp only [List.zip_cons_cons,List.foldl_cons,bindT]
  refine aJ7 ps l vs _ _ (by simpa using h1) (by simpa using h2) (fun i hi=>by have:=hr (i+1) (by simpa using hi); simpa using this) (by simp [hs]) fun t hlt=>?_
  simp only [ac8]
  by_cases hp:p=t
  ·subst hp
   rw [if_pos rfl,Array.getD_eq_getD_getElem?,Array.getElem?_setIfInBounds_self_of_lt (by omega)]
   have:=hr 0 (by simp)
   simpa using this
  ·rw [if_neg hp,Array.getD_eq_getD_getElem?,Array.getElem?_setIfInBounds_ne hp,<-Array.getD_eq_getD_getElem?]
   exact ht t hlt
section
variable {P:Program}{w0:World}{X0:Fr}{specs:List FSpec}{eqs:List (TypeId×List CK)}{N m:Nat}
def Lifts (w0:World) (X0:Fr) (N:Nat) (K:SK) (Q:Exit->Act->World->Prop):Prop:=∀ e s a w,K e s->StR w0 X0 N s a w->Q e.lift a w
theorem av5 {I:Inv}{s:St}(hnm:∀ k,X0.nm k≠none->k<m) (h:meets m I s) {a:Act}{w:World}(hs:StR w0 X0 N s a w):∃ g,I.pre g/\StR w0 X0 N (I.st g) a w:=by
 obtain ⟨g,⟨hp⟩,hl⟩:=h
 exact ⟨g,hp,hs.le hnm hl.get.1 hl.get.2⟩
def FrOK (r:Bool) (F:Fence):Prop:=F=Fence.wide\/(r=true/\∃ l,F=Fence.wide.inRound l)
theorem FrOK.wd {r:Bool}{F:Fence}(h:FrOK r F):Wd F:=h.elim .inl fun h=> .inr h.2
theorem iter_sound (_:∀ t n,(t,n)∈eqs->EqOK P t n) (_:P.follows .mixedOrders=true) {g:Operand}{ps:Array Tmp}{assign body:Code}
  (iha:∀ {w0:World}{X0:Fr}{m:Nat}{r:Bool}{F:Fence}{n:Nat}(_:FrOK r F) (_:r=false->X0.marks=true) (_:∀ k,X0.nm k≠none->k<m) (A:Ann) (K:SK) (Q:Exit->Act->World->Prop) (s:St),vc P specs eqs N m r A assign K s->Lifts w0 X0 N K Q->∀ a w,StR w0 X0 N s a w->assign.wpIn F n P Q a w)
  (ihb:∀ {w0:World}{X0:Fr}{m:Nat}{r:Bool}{F:Fence}{n:Nat}(_:FrOK r F) (_:r=false->X0.marks=true) (_:∀ k,X0.nm k≠none->k<m) (A:Ann) (K:SK) (Q:Exit->Act->World->Prop) (s:St),vc P specs eqs N m r A body K s->Lifts w0 X0 N K Q->∀ a w,StR w0 X0 N s a w->body.wpIn F n P Q a w)
  {w0:World}{X0:Fr}{m:Nat}{r:Bool}{F:Fence}{nn:Nat}(hF:FrOK r F) (hmk:r=false->X0.marks=true) (hnm:∀ k,X0.nm k≠none->k<m) {A:Ann}{K:SK}{Q:Exit->Act->World->Prop}{s:St}(h:vc P specs eqs N m r A (.rangeFunc g ps assign body) K s) (hl:Lifts w0 X0 N K Q) {a:Act}{w:World}(hs:StR w0 X0 N s a w) :
  (Code.rangeFunc g ps assign body).wpIn F nn P Q a w:=by
 simp only [vc] at h
 split at h
 case h_1=>exact h.elim
 obtain rfl:F=Fence.wide:=hF.elim id fun h=>(nomatch h.1)
 have hmk:X0.n0 w0=some w0.heap.size:=by unfold Fr.n0; rw [hmk rfl]
 split at h
 case h_2=>exact h.elim
 rename_i f nc cg hg
 split at h
 case h_2=>exact h.elim
 split at h
 case h_2=>exact h.elim
 rename_i is pre st sub _
 split at h
 case h_2=>exact h.elim
 rename_i hb
 rw [Bool.and_eq_true] at hb
 obtain ⟨hbf,hpu⟩:=hb
 split at h
 case h_2=>exact h.elim
 rename_i q hq
 obtain ⟨hit,hp,⟨⟨hp0⟩,hn0⟩,hround,hdone⟩:=h
 obtain ⟨p,cnt,its⟩:=q
 simp only at hp hround hdone hn0
 obtain rfl:=Nat.eq_of_beq_eq_true hbf
 obtain ⟨τ0,hτ0⟩:∃ τ0,aw5 s.τ=τ0:=⟨_,rfl⟩
 rw [hτ0] at hn0 hround hdone
 obtain ⟨E,hrep,htr⟩:=id hs
 obtain ⟨vs,hga,hvs,hcg⟩:=fn_inv (hg▸ag8 htr g)
 have hcapt:ap4 w (Xo X0 E s.H) E0 ((List.range nc).map cg) vs:=by
  have hA:ap4 w (Xo X0 E s.H) E ((List.range nc).map cg) vs:=⟨by simp [hvs],fun i hi=>by
   have hi':i<nc:=by simpa using hi
   have:=hcg i hi'
   rw [List.getD_eq_getElem?_getD,List.getElem?_map,List.getElem?_range hi']
   exact this⟩
  exact ⟨hA.1,args_pure0 hA hpu⟩
 have hsol:StR w0 X0 N ⟨τ0,s.H⟩ a w:=⟨E,hrep,htr.1,htr.2.1,fun t ht=>by rw [<-hτ0,aq2]; exact ba0 (fun _ _ _=>rfl) (ab8.refl _ _) (htr.2.2 t ht) fun _ _ h=>h⟩
 obtain ⟨hm1,hle⟩:=hn0.get
 obtain ⟨hx1a,hrep1,htr1⟩:∃ hx:(∀ b,Xo X0 (E.cut (st 0)) (st 0) b->Xo X0 E s.H b),Rep w0 X0 (st 0) (E.cut (st 0)) w/\TR (X0.n0 w0) w (Xo X0 (E.cut (st 0)) (st 0)) (E.cut (st 0)) N τ0 a:=by
  obtain ⟨g1,hx⟩:=hrep.le hle.2 hnm hm1
  exact ⟨hx,g1,htr.1,htr.2.1.mono (fun _ _ _=>rfl) (fun b _ hb=>hx b hb),fun u hu=>ag1 hx (fun k ver v us he ver' hr=>an6 (hrep.ok k _ he) hr) (am3 hle.1 u) (by rw [<-hτ0,aq2]; exact ba0 (fun _ _ _=>rfl) (ab8.refl _ _) (htr.2.2 u hu) fun _ _ h=>h)⟩
 generalize hE1:E.cut (st 0)=E1 at hx1a hrep1 htr1
 have hcapt1:ap4 w (Xo X0 E1 (st 0)) E0 ((List.range nc).map cg) vs:=⟨hcapt.1,fun i hi=>(hcapt.2 i hi).mono (fun _ _ _=>rfl) (fun b _ hb=>hx1a b hb) (Env.le_refl _)⟩
 obtain ⟨X1,hX1⟩:∃ X1,Xo X0 E1 (st 0)=X1:=⟨_,rfl⟩
 rw [hX1] at hcapt1
 refine wpIn_rangeFunc ?_
 intro fn _
 obtain ⟨rec,hrec⟩:∃ rec:LoopState->Option Code->Loop,rec=fun st pe=>{ state:=st,pending:=pe,fn,tmps:=a.tmps,params:=ps,assign,body,defers:=w.heap.size }:=⟨_,rfl⟩
 obtain ⟨W1,hW1⟩:∃ W1,(w.alloc (.deferred (some []))).alloc (.loop (rec .ready none))=W1:=⟨_,rfl⟩
 have hL1:W1.heap[w.heap.size+1]?=some (.loop (rec .ready none)):=by
  rw [<-hW1]; have:=World.alloc_heap_new (w.alloc (.deferred (some []))) (.loop (rec .ready none)); rwa [World.size_alloc] at this
 have hb1:Below w.heap.size w W1:=by
  rw [<-hW1]; exact ((Below.refl _ w).alloc (Nat.le_refl _) _).alloc (by simp) _
 have hK1:W1.heap[w.heap.size]?=some (.deferred (some [])):=by
  rw [<-hW1]; exact (Below.heap_alloc _ _ _ (by simp)).trans (World.alloc_heap_new w _)
 have hw0:w0.heap.size<=w.heap.size:=hrep.below.size
 refine ⟨w.heap.size+1,[{ target:= .collected w.heap.size,args:=#[] }],W1,{ target:= .fn (.func is.f) vs,args:=#[.func (.yield (w.heap.size+1)) #[] #[]] },W1,is.f,
  #[.func (.yield (w.heap.size+1)) #[] #[]]++vs,W1,?_,?_,fun f' _=>trivial,?_,fun hd=>(nomatch hd),?_⟩
 ·rw [<-hW1,hrec]; exact run_enterLoop_outer _ _ _ _ _
 ·simp only [resolve,hga]
  simp [go_sem]
 ·simp [invoke,go_sem,hit.ent]
 obtain ⟨J0,hJ0⟩:∃ J0:List SO->Env->World->Prop,J0=fun H E' W=>Rep w0 X0 H E' W/\TR (X0.n0 w0) W (Xo X0 E' H) E' N τ0 a/\(∀ b,b<w.heap.size->Xo X0 E' H b->X1 b)/\w.heap.size<=W.heap.size/\(∀ b,b<w.heap.size->¬ X1 b->W.heap[b]?=w.heap[b]?)/\W.heap[w.heap.size]?=some (.deferred (some [])):=⟨_,rfl⟩
 have J0below:∀ {H E' W W'},J0 H E' W->Below W.heap.size W W'->J0 H E' W':=by
  subst hJ0
  rintro H E' W W' ⟨h1,h2,h3,h4,h5,h6⟩ hb
  exact ⟨h1.world hb,h2.mono (Rep.keeps hb) (ab8.refl _ _) (Env.le_refl _),h3,Nat.le_trans h4 hb.size,fun b hlt hx=>(hb.block b (by omega)).trans (h5 b hlt hx),(hb.block _ (lt_of_block h6)).trans h6⟩
 have J0turn:∀ {H E' W} {o:Obj}{r:Loop},J0 H E' W->W.heap[w.heap.size+1]?=some (.loop r)->J0 H E' (W.putObj (w.heap.size+1) o):=by
  subst hJ0
  rintro H E' W o r ⟨h1,h2,h3,h4,h5,h6⟩ hl
  have hk:ar1 W (W.putObj (w.heap.size+1) o):=ar1.putObj hl (.inr ⟨_,rfl⟩)
  refine ⟨h1.turn (by omega) hl (.inr ⟨_,rfl⟩),⟨h2.1,⟨h2.2.1.1,h2.2.1.2.1,fun d hd=>?_⟩,fun t ht=>(h2.2.2 t ht).turn hk⟩,h3,by rw [World.putObj_size]; exact h4,fun b hlt hx=>(World.putObj_heap_other (by omega)).trans (h5 b hlt hx),(World.putObj_heap_other (by omega)).trans h6⟩
  obtain ⟨D,rfl,g1,g2,g3⟩:=h2.2.1.2.2 d hd
  refine ⟨D,rfl,g1,(World.putObj_heap_other fun hc=>?_).trans g2,g3⟩
  subst hc
  rw [hl] at g2
  cases g2
 have J0step:∀ {H E' W H2 E2 W2},J0 H E' W->Rep W (reb X0 H E') H2 E2 W2->NmLe m H H2->J0 H2 E2 W2:=by
  subst hJ0
  rintro H E' W H2 E2 W2 ⟨h1,h2,h3,h4,h5,h6⟩ hr hmm
  obtain ⟨u1,u2,u3,u4⟩:=h1.unbase hr hnm hmm
  have hxx:∀ b,b<w.heap.size->Xo X0 E2 H2 b->X1 b:=fun b hlt hb=>h3 b hlt (u2 b (by omega) hb)
  refine ⟨u1,⟨h2.1,h2.2.1.mono u3 u2,fun t ht=>?_⟩,hxx,Nat.le_trans h4 hr.below.size,fun b hlt hx=>(u3 b (by omega) fun hc=>hx (h3 b hlt hc)).trans (h5 b hlt hx),?_⟩
  ·have:=ba0 u3 u2 (h2.2.2 t ht) u4
   rw [<-hτ0,aq2] at this ⊢
   rwa [a13] at this
  ·refine (hr.below.block _ (lt_of_block h6) (h1.ax0 h6 (.inl ⟨_,rfl⟩))).trans h6
 have J0le:∀ {H E' W H2},J0 H E' W->NmLe m H H2->StLe ⟨τ0,H⟩ ⟨τ0,H2⟩->J0 H2 (E'.cut H2) W:=by
  subst hJ0
  rintro H E' W H2 ⟨h1,h2,h3,h4,h5,h6⟩ hmm hle
  obtain ⟨g1,hx⟩:=h1.le hle.2 hnm hmm
  exact ⟨g1,⟨h2.1,h2.2.1.mono (fun _ _ _=>rfl) (fun b _ hb=>hx b hb),fun u hu=>ag1 hx (fun k ver v us he ver' hr=>an6 (h1.ok k _ he) hr) (am3 hle.1 u) (h2.2.2 u hu)⟩,fun b hlt hb=>h3 b hlt (hx b hb),h4,h5,h6⟩
 have hJstart:J0 (st 0) E1 W1:=by
  have h0:Rep w0 X0 (st 0) E1 W1/\TR (X0.n0 w0) W1 (Xo X0 E1 (st 0)) E1 N τ0 a:=⟨hrep1.world hb1,htr1.mono (Rep.keeps hb1) (ab8.refl _ _) (Env.le_refl _)⟩
  rw [hJ0]
  exact ⟨h0.1,h0.2,fun b _ hb=>by rw [<-hX1]; exact hb,hb1.size,fun b hlt _=>hb1.block b hlt,hK1⟩
 have hcall:=hit.ok _ _ _ _ hq hp w X1 vs hcapt1 (w.heap.size+1)
  (fun i B W=>(∃ E',J0 (st i) E' W/\∀ b,B b->b<W.heap.size/\b≠w.heap.size+1/\¬ Xo X0 E' (st i) b)/\pre i/\W.heap[w.heap.size+1]?=some (.loop (rec .ready none)))
  (fun _ W=>∃ (e:SExit) (c:Code) (H':List SO) (E':Env),((e = .ret/\c = .ret)\/∃ id,e = .exit id/\c = .exit id)/\K e ⟨τ0,H'⟩/\J0 H' E' W/\W.heap[w.heap.size+1]?=some (.loop (rec .done (some c))))
  (fun i B W W' ⟨⟨E',h1,hB⟩,h2,h3⟩ hb=>⟨⟨E',J0below h1 hb,fun b hbb=>by
   rcases hbb with hbb | ⟨hbb,hlt⟩
   ·exact ⟨Nat.lt_of_lt_of_le (hB b hbb).1 hb.size,(hB b hbb).2⟩
   ·refine ⟨hlt,fun hc=>?_,fun hc=>?_⟩
    ·have:=lt_of_block h3; omega
    ·subst hJ0
     have:=h1.1.xlt b hc
     omega⟩,h2,(hb.block _ (lt_of_block h3)).trans h3⟩)
  (fun _ W W' ⟨e,c,H',E',h1,h2,h3,h4⟩ hb=>⟨e,c,H',E',h1,h2,J0below h3 hb,(hb.block _ (lt_of_block h4)).trans h4⟩)
  (fun i B W ⟨⟨E',h1,hB⟩,h2,h3⟩=>by subst hJ0; exact ⟨⟨h1.2.2.2.1,h1.2.2.2.2.1⟩,fun b hb=>(hB b hb).1⟩) ?_ W1 ⟨⟨E1,hJstart,fun b hb=>hb.elim⟩,hp0,hL1⟩
 ·refine callsIn_wide.2 (hcall.mono ?_)
  rintro e W2 ⟨⟨v,rfl⟩,(⟨B,⟨E',hJ,_⟩,hpre,hlp⟩ | ⟨i,_,e,c,H',E',hec,hK,hJ,hlp⟩)⟩
  ·refine ⟨none,_,by have:=run_endLoop (P:=P) hlp (by rw [hrec]; simp); rw [hrec] at this; exact this,?_⟩
   have hJ2:=J0turn (o:= .loop { rec .ready none with state:= .exhausted }) hJ hlp
   rw [hrec] at hJ2
   subst hJ0
   obtain ⟨j1,j2,_,_,_,j6⟩:=hJ2
   refine hl .normal _ _ _ (hdone hpre) ⟨E',j1,j2.1,⟨fun hc=>(by rw [hmk] at hc; cases hc),List.pairwise_cons.2 ⟨fun d hd hc=>?_,j2.2.1.2.1⟩,fun d hd=>?_⟩,j2.2.2⟩
   ·obtain ⟨D,rfl,g1,g2,g3⟩:=htr.2.1.2.2 d hd
    cases hc
    have:=lt_of_block g2
    omega
   ·rcases List.mem_cons.1 hd with rfl | hd
    ·refine ⟨_,rfl,fun n hn=>(by rw [hmk] at hn; cases hn; exact hw0),j6,?_⟩
     rintro (hx | hh)
     ·have:=(j1.x0 _ hx).1; omega
     ·exact j1.ax0 j6 (.inl ⟨_,rfl⟩) hh
    ·exact j2.2.1.2.2 d hd
  ·refine ⟨some c,_,by have:=run_endLoop (P:=P) hlp (by rw [hrec]; simp); rw [hrec] at this; exact this,?_⟩
   have hJ2:=J0turn (o:= .loop { rec .done (some c) with state:= .exhausted }) hJ hlp
   rw [hrec] at hJ2
   subst hJ0
   obtain ⟨j1,j2,_,_,_,j6⟩:=hJ2
   have hst:StR w0 X0 N ⟨τ0,H'⟩ { a with defers:=[{ target:= .collected w.heap.size,args:=#[] }]++a.defers } (W2.putObj (w.heap.size+1) (.loop { state:= .exhausted,pending:=some c,fn,tmps:=a.tmps,params:=ps,assign,body,defers:=w.heap.size })):=by
    refine ⟨E',j1,j2.1,⟨fun hc=>(by rw [hmk] at hc; cases hc),List.pairwise_cons.2 ⟨fun d hd hc=>?_,j2.2.1.2.1⟩,fun d hd=>?_⟩,j2.2.2⟩
    ·obtain ⟨D,rfl,g1,g2,g3⟩:=htr.2.1.2.2 d hd
     cases hc
     have:=lt_of_block g2
     omega
    ·rcases List.mem_cons.1 hd with rfl | hd
     ·refine ⟨_,rfl,fun n hn=>(by rw [hmk] at hn; cases hn; exact hw0),j6,?_⟩
      rintro (hx | hh)
      ·have:=(j1.x0 _ hx).1; omega
      ·exact j1.ax0 j6 (.inl ⟨_,rfl⟩) hh
     ·exact j2.2.1.2.2 d hd
   rcases hec with ⟨rfl,rfl⟩ | ⟨id,rfl,rfl⟩
   ·exact wpIn_ret (hl .ret _ _ _ hK hst)
   ·exact wpIn_exit (hl (.exit id) _ _ _ hK hst)
 ·
  rintro i B W args hi ⟨⟨E',hJ,hB⟩,hpre,hlp⟩ hargs
  have hv:=hround i hi hpre
  split at hv
  case h_2=>exact hv.elim
  rename_i hps
  have hps':=Nat.eq_of_beq_eq_true hps
  have hy:=run_yield (P:=P) (args:=args) hlp (by rw [hrec]; exact hargs.1.trans hps')
  rw [hrec] at hy
  refine ⟨fn,_,assign,body,hy,roundIn_of_wpIn trivial ?_⟩
  clear hy
  have hJ':=hJ
  rw [hJ0] at hJ'
  obtain ⟨j1,j2,j3,j4,j5,j6⟩:=hJ'
  have hwit:ab8 (fun b=>¬ B b/\(w.heap.size<=b\/X1 b)) (Xo X0 E' (st i)) W:=by
   intro b hlt hb
   refine ⟨fun hc=>(hB b hc).2.2 hb,?_⟩
   rcases Nat.lt_or_ge b w.heap.size with h1 | h1
   ·exact .inr (j3 b h1 hb)
   ·exact .inl h1
  have htm:=aJ7 (w:=W) (X:=Xo X0 E' (st i)) (E:=E') (N:=N) ps.toList (its i) args.toList τ0 a.tmps (by rw [Array.length_toList]; exact hps'.symm) (by rw [Array.length_toList]; exact hargs.1)
   (fun k hk=>by
    have:=hargs.2 k hk
    have e1:args.toList.getD k undef=args.getD k undef:=by rw [List.getD_eq_getElem?_getD,Array.getElem?_toList,Array.getD_eq_getD_getElem?]
    rw [e1]
    exact up (this.mono (fun _ _ _=>rfl) hwit (Env.le_refl _))) j2.1 j2.2.2
  have hfold:(ps.zip args).foldl (fun t (p,v)=>t.setIfInBounds p v) a.tmps=(ps.toList.zip args.toList).foldl (fun t (p,v)=>t.setIfInBounds p v) a.tmps:=by
   rw [<-Array.foldl_toList,Array.toList_zip]
  rw [<-hfold] at htm
  refine iha (F:=Fence.wide.inRound (w.heap.size+1)) (w0:=W) (X0:=reb X0 (st i) E') (.inr ⟨rfl,_,rfl⟩) (fun hc=>(nomatch hc)) (fun k hk=>?_) _ _ _ _ hv ?_ _ W ⟨E',j1.rebase,htm.1,au4.nil _ _ _,htm.2⟩
  ·cases he:E' k with
   | none=>exact absurd he hk
   | some e=>exact j1.dom k e he
  rintro e s1 a1 w1 hk1 hs1
  cases e with
  | exit id=>exact hk1.elim
  | ret=>exact hk1.elim
  | normal=>
  have hvb:=hk1
  clear hk1
  simp only [assignK] at hvb
  obtain ⟨Eb,hrb,htb⟩:=hs1
  have hlp1:w1.heap[w.heap.size+1]?=some (.loop (rec .ready none)):=(hrb.below.block _ (lt_of_block hlp) (j1.ax0 hlp (.inr ⟨_,rfl⟩))).trans hlp
  refine ⟨_,run_beginRound hlp1 (by rw [hrec]),?_⟩
  have hkc:ar1 w1 (w1.putObj (w.heap.size+1) (.loop { rec .ready none with state:= .busy })):=ar1.putObj hlp1 (.inr ⟨_,rfl⟩)
  have hr2:=hrb.turnBoth (o:= .loop { rec .ready none with state:= .busy }) hlp hlp1
  have hJ2:=J0turn (o:= .loop { rec .ready none with state:= .busy }) hJ hlp
  have hlp2:(W.putObj (w.heap.size+1) (.loop { rec .ready none with state:= .busy })).heap[w.heap.size+1]?=some (.loop { rec .ready none with state:= .busy }):=World.putObj_heap_same (lt_of_block hlp)
  have hsz2:(W.putObj (w.heap.size+1) (.loop { rec .ready none with state:= .busy })).heap.size=W.heap.size:=World.putObj_size
  generalize hw2:W.putObj (w.heap.size+1) (.loop { rec .ready none with state:= .busy })=W2 at hJ2 hr2 hlp2 hsz2
  have hJ2':=hJ2
  rw [hJ0] at hJ2'
  obtain ⟨i1,i2,i3,i4,i5,i6⟩:=hJ2'
  refine wpIn_mono (ihb (F:=Fence.wide.inRound (w.heap.size+1)) (w0:=W2) (X0:=reb X0 (st i) E') (Q:=fun e a3 w3=>∃ e' s',e=SExit.lift e'/\iterK m τ0 pre st i K e' s'/\StR W2 (reb X0 (st i) E') N s' a3 w3) (.inr ⟨rfl,_,rfl⟩) (fun hc=>(nomatch hc)) (fun k hk=>?_) _ _ _ hvb (fun e s' a3 w3 h1 h2=>⟨e,s',rfl,h1,h2⟩) a1 _ ⟨Eb,hr2,htb.1,by rw [htb.2.1.1 rfl]; exact au4.nil _ _ _,fun t ht=>(htb.2.2 t ht).turn hkc⟩) ?_
  ·cases he:E' k with
   | none=>exact absurd he hk
   | some e=>exact i1.dom k e he
  rintro e a3 w3 ⟨e',s',rfl,hk',E3,hr3,ht3⟩
  have hl3:w3.heap[w.heap.size+1]?=some (.loop { rec .ready none with state:= .busy }):=(hr3.below.block _ (lt_of_block hlp2) (i1.ax0 hlp2 (.inr ⟨_,rfl⟩))).trans hlp2
  have fin:∀ (jump:Option Code),(Instr.endRound (w.heap.size+1) jump).run P w3 = .ok (.bool jump.isNone) (w3.putObj (w.heap.size+1) (.loop (rec (if jump.isNone then .ready else .done) jump)))/\
    (w3.putObj (w.heap.size+1) (.loop (rec (if jump.isNone then .ready else .done) jump))).heap[w.heap.size+1]?=some (.loop (rec (if jump.isNone then .ready else .done) jump)):=fun jump=>by
   have:=run_endRound (P:=P) jump hl3
   rw [hrec] at this ⊢
   exact ⟨this,World.putObj_heap_same (lt_of_block hl3)⟩
  cases e' with
  | normal=>
   obtain ⟨hm3,⟨hp3⟩,hn3⟩:=hk'
   obtain ⟨hr,hl4⟩:=fin none
   have hs3:=J0step hJ2 hr3 hm3
   have hs4:=hs3
   rw [hJ0] at hs4
   obtain ⟨u1,u2,u3,u4⟩:=i1.unbase hr3 hnm hm3
   obtain ⟨_,hx4⟩:=hs4.1.le hn3.get.2.2 hnm hn3.get.1
   refine ⟨_,_,hr,.inl ⟨rfl,⟨⟨_,J0turn (J0le hs3 hn3.get.1 hn3.get.2) hl3,fun b hb=>?_⟩,hp3,hl4⟩,fun b hb=>?_⟩⟩
   ·obtain ⟨b1,b2,b3⟩:=hB b hb
    exact ⟨by rw [World.putObj_size]; exact Nat.lt_of_lt_of_le b1 (by rw [<-hsz2]; exact hr3.below.size),b2,fun hc=>b3 (u2 b (by rw [hsz2]; exact b1) (hx4 b hc))⟩
   ·obtain ⟨b1,b2,b3⟩:=hB b hb
    refine (World.putObj_heap_other b2).trans ((u3 b (by rw [hsz2]; exact b1) b3).trans ?_)
    rw [<-hw2]
    exact World.putObj_heap_other b2
  | ret=>
   obtain ⟨hm3,hk3⟩:=hk'
   obtain ⟨hr,hl4⟩:=fin (some .ret)
   exact ⟨_,_,hr,.inr ⟨rfl,.ret,.ret,s'.H,E3,.inl ⟨rfl,rfl⟩,hk3,J0turn (J0step hJ2 hr3 hm3) hl3,hl4⟩⟩
  | exit id=>
   obtain ⟨hm3,hk3⟩:=hk'
   obtain ⟨hr,hl4⟩:=fin (some (.exit id))
   exact ⟨_,_,hr,.inr ⟨rfl,.exit id,.exit id,s'.H,E3,.inr ⟨id,rfl,rfl⟩,hk3,J0turn (J0step hJ2 hr3 hm3) hl3,hl4⟩⟩
theorem tr_app {w0:World}{X0:Fr}(hspecs:∀ s∈specs,aj1 P w0 X0 s) (heqs:∀ t n,(t,n)∈eqs->EqOK P t n) {ops:Array Oper}{F:Fence}{nn:Nat}(hF:Wd F) {Q:Exit->Act->World->Prop}{l2:List Oper} :
  ∀ {l:List Oper}{s s':St},Tr P specs eqs N ops l s s'->(∀ a w,StR w0 X0 N s' a w->wpListIn F nn P ops Q l2 a w)->∀ a w,StR w0 X0 N s a w->wpListIn F nn P ops Q (l++l2) a w:=by
 intro l s s' ht hq
 induction ht with
 | nil=>exact fun a w h=>hq a w h
 | cons hs _ ih=>
  intro a w h
  obtain ⟨E,hrep,htr⟩:=id h
  simp only [wpListIn,List.cons_append]
  cases hs with
  | run hw hy hask hv hv2 hv3 hv4=>
   rw [if_pos (hw.wanted htr)]
   exact aV7 hspecs heqs h hy hask hv F nn hF _ _ fun v w' hg=>ih hq _ _ hg
  | skip hw=>
   rw [if_neg (by rw [hw.wanted htr]; simp)]
   exact ⟨fun f _=>hF.fn f,ih hq _ _ (aM0 h _)⟩
theorem news_sound {w0:World}{X0:Fr}(hspecs:∀ s∈specs,aj1 P w0 X0 s) (heqs:∀ t n,(t,n)∈eqs->EqOK P t n) {ops:Array Oper}{F:Fence}{nn:Nat}(hF:Wd F) {Q:Exit->Act->World->Prop}{q:Nat}{ns:NSpec}{K:St->Prop}{s:St}
  (h:vcNews P specs eqs N ops q ns K s) {id:Nat}{a:Act}{w:World}(hs:StR w0 X0 N s a w) (hq:∀ s' a' w',K s'->StR w0 X0 N s' a' w'->Q .normal a' w'):(Code.region id ops false).wpIn F nn P Q a w:=by
 unfold vcNews at h
 obtain ⟨s1,ht,hk⟩:=at1 h
 split at hk
 case h_2=>exact hk.elim
 rename_i o hoq
 split at hk
 ·exact hk.elim
 rename_i hgd
 split at hk
 case h_2=>exact hk.elim
 rename_i c hop
 split at hk
 case h_2=>exact hk.elim
 rename_i x hcal
 split at hk
 case h_2=>exact hk.elim
 rename_i G n g hev
 split at hk
 case h_2=>exact hk.elim
 rename_i hbeq
 split at hk
 case h_2=>exact hk.elim
 rename_i r hrun
 obtain ⟨hN,hp,hrest⟩:=hk
 obtain ⟨s',ht2,hK⟩:=at1 hrest
 have hql:q<ops.size:=(Array.getElem?_eq_some_iff.1 hoq).1
 have hdrop:ops.toList.drop q=o::ops.toList.drop (q+1):=by
  rw [List.drop_eq_getElem_cons (by rw [Array.length_toList]; exact hql),Array.getElem_toList]
  congr 1
  exact (Array.getElem?_eq_some_iff.1 hoq).2
 have hall:=tr_app hspecs heqs hF (nn:=nn) (Q:=Q) (l2:=ops.toList.drop q) ht (fun a1 w1 hs1=>by
  rw [hdrop]
  obtain ⟨E,hrep,htr⟩:=hs1
  have hw:Region.wanted o (yielded ops a1.tmps)=true:=by simp [Region.wanted,hgd]
  simp only [wpListIn]
  rw [if_pos hw]
  have hargs:=au1 htr c.args
  obtain ⟨vs,hv,hsz,hr⟩:=fn_inv (hev▸ag8 htr x)
  have hG:ns.f=G:=Nat.eq_of_beq_eq_true hbeq
  have hcall:=hN.ok _ r.1 r.2.1 r.2.2 hrun hp w0 X0 s1.H E w1 hrep _ (aJ9 hargs hsz hr)
  have hopk:OpOK P o a1 w1 (fun v w'=>GoesL w0 X0 s1.H E w1 (r.2.2 s1.H.length) (r.2.1 s1.H.length) v w'):=by
   refine aG7 (f:=ns.f) ?_ hcall
   obtain ⟨cc,ca,ct⟩:=c
   simp only at hcal
   subst hcal
   simp only [execOp,hop,resolve,Sem.run_bind,Sem.run_pure,Result.andThen_ok,hv,Deferred.ofValue,invoke,Array.empty_append]
   rw [<-hG]
   exact hN.ent _ _
  refine hopk F nn hF _ _ fun v w' hg=>?_
  obtain ⟨E',le,hk',hx,hrep',hR⟩:=hg
  exact tr_seq hspecs heqs hF ht2 (fun a' w' hs'=>hq s' a' w' hK hs') _ _ ⟨E',hrep',(htr.mono hk' hx le).put hR⟩) a w hs
 rw [List.take_append_drop] at hall
 exact wpIn_region_list hall
theorem opsOf_or (A:Ann) (id:Nat) (ops:Array Oper) (d:Bool):opsOf A id ops d=ops\/d=true/\∃ l,PermOK l ops/\opsOf A id ops d=ah1 l ops:=by
 unfold opsOf
 split
 ·exact .inl rfl
 ·split
  ·split
   ·rename_i l hf _ hp
    exact .inr ⟨rfl,l,permB_spec hp,rfl⟩
   ·exact .inl rfl
  ·exact .inl rfl
def noRF:Code->Bool
 | .seq x y=>noRF x&&noRF y
 | .cond _ x y=>noRF x&&noRF y
 | .block _ c=>noRF c
 | .loop c=>noRF c
 | .scope c=>noRF c
 | .rangeFunc ..=>false
 | _=>true
theorem orL {A:Prop}{a b:Bool}(h:A\/(a&&b)=true):A\/a=true:=h.imp id fun h=>(Bool.and_eq_true _ _▸h:a=true/\b=true).1
theorem orR {A:Prop}{a b:Bool}(h:A\/(a&&b)=true):A\/b=true:=h.imp id fun h=>(Bool.and_eq_true _ _▸h:a=true/\b=true).2
theorem aE7 {Γ:World->Fr->Prop}(hspecs:∀ w0 X0,Γ w0 X0->∀ s∈specs,aj1 P w0 X0 s) (heqs:∀ t n,(t,n)∈eqs->EqOK P t n) (hm:P.follows .mixedOrders=true) :
  ∀ (c:Code),((∀ w0 X0,Γ w0 X0)\/noRF c=true)->∀ {w0:World}{X0:Fr}{m:Nat}{r:Bool}{F:Fence}{n:Nat}(_:Γ w0 X0) (_:FrOK r F) (_:r=false->X0.marks=true) (_:∀ k,X0.nm k≠none->k<m) (A:Ann) (K:SK) (Q:Exit->Act->World->Prop) (s:St),vc P specs eqs N m r A c K s->Lifts w0 X0 N K Q->∀ a w,StR w0 X0 N s a w->c.wpIn F n P Q a w:=by
 intro c
 induction c with
 | skip=>intro hN w0 X0 m r F nn hΓ hF hmk hnm _ K Q s h hl a w hs; exact wpIn_skip (hl .normal s a w h hs)
 | label l=>intro hN w0 X0 m r F nn hΓ hF hmk hnm _ K Q s h hl a w hs; exact wpIn_label (hl .normal s a w h hs)
 | region id ops d=>
  intro hN w0 X0 m r F nn hΓ hF hmk hnm A K Q s h hl a w hs
  simp only [vc] at h
  have fin:∀ {a':Act}{w':World}{s':St},aB5 N m A id (K .normal) s'->StR w0 X0 N s' a' w'->Q .normal a' w':=by
   intro a' w' s' hK hs'
   obtain ⟨s2,h1,h2⟩:=vcBack_get hK hnm hs' fun hm hs=>av5 hnm hm hs
   exact hl .normal s2 a' w' h1 h2
  have post:∀ {a':Act}{w':World}{s':St},aE8 m N (aB5 N m A id (K .normal)) s' (aS1 A.preps (1000000+id))->StR w0 X0 N s' a' w'->Q .normal a' w':=by
   intro a' w' s' hK hs'
   revert hK
   cases aS1 A.preps (1000000+id) with
   | nil=>exact fun hK=>fin hK hs'
   | cons p r=>
    intro hK
    simp only [aE8] at hK
    split at hK
    case h_2=>exact hK.elim
    rename_i s2 hp
    exact fin hK (al6 hnm hp hs')
  have go:∀ {l:List PrepA}{s:St},(match aq6 m N s l with
    | some s'=>vcGo P specs eqs N (opsOf A id ops d) d (fun s=>aE8 m N (aB5 N m A id (K .normal)) s (aS1 A.preps (1000000+id))) s'
    | none=>False)->StR w0 X0 N s a w->(Code.region id ops d).wpIn F nn P Q a w:=by
   intro l s h hs
   split at h
   case h_2=>exact h.elim
   rename_i s1 hp
   unfold vcGo at h
   split at h
   ·obtain ⟨s',ht,hK⟩:=at1 h
    split at hK
    case h_2=>exact hK.elim
    rename_i hR
    exact aB7 (hspecs w0 X0 hΓ) heqs hm (opsOf_or A id ops _) hF.wd ht (fun _=>hR) (fun a' w' hs'=>post hK hs') (al6 hnm hp hs)
   ·obtain ⟨s',ht,hK⟩:=at1 h
    exact aB7 (hspecs w0 X0 hΓ) heqs hm (opsOf_or A id ops _) hF.wd ht (fun hd=>by cases hd) (fun a' w' hs'=>post hK hs') (al6 hnm hp hs)
  have reg0:∀ {s:St},ba6 P specs eqs N m A id ops d (aB5 N m A id (K .normal)) s->StR w0 X0 N s a w->(Code.region id ops d).wpIn F nn P Q a w:=by
   intro s h hs
   simp only [ba6] at h
   split at h
   ·split at h
    ·exact h.elim
    ·exact news_sound (hspecs w0 X0 hΓ) heqs hF.wd h hs (fun s' a' w' hK hs'=>post hK hs')
   split at h
   ·split at h
    case h_2=>exact h.elim
    rename_i q hq
    rcases aW8 hq hs with ⟨h0,hs1⟩ | hs2
    ·exact go (h.1 h0) hs1
    ·exact go h.2 hs2
   ·exact go h hs
  unfold vcReg at h
  split at h
  ·obtain ⟨hok,hmeet,hall⟩:=h
   obtain ⟨g,hg,hs2⟩:=av5 hnm hmeet hs
   obtain ⟨J,hJ,j,hj,hs3⟩:=hok g hg w0 X0 a w hnm hs2
   exact reg0 (aU4 hall J hJ j hj) hs3
  ·exact reg0 h hs
 | seq x y ihx ihy=>
  intro hN w0 X0 m r F nn hΓ hF hmk hnm A K Q s h hl a w hs
  simp only [vc] at h
  split at h
  ·refine wpIn_seq (ihx (orL hN) hΓ hF hmk hnm A _ _ s h (fun e s' a' w' hk hs'=>?_) a w hs)
   cases e with
   | normal=>exact ihy (orR hN) hΓ hF hmk hnm A K Q s' hk hl a' w' hs'
   | exit id=>exact hl _ s' a' w' hk hs'
   | ret=>exact hl _ s' a' w' hk hs'
  ·rename_i I hI
   refine wpIn_seq (ihx (orL hN) hΓ hF hmk hnm A _ _ s h.1 (fun e s' a' w' hk hs'=>?_) a w hs)
   cases e with
   | normal=>
    obtain ⟨g,hg,hs2⟩:=av5 hnm hk hs'
    exact ihy (orR hN) hΓ hF hmk hnm A K Q _ (h.2 g hg) hl a' w' hs2
   | exit id=>exact hl _ s' a' w' hk hs'
   | ret=>exact hl _ s' a' w' hk hs'
 | cond c x y ihx ihy=>
  intro hN w0 X0 m r F nn hΓ hF hmk hnm A K Q s h hl a w hs
  simp only [vc] at h
  obtain ⟨E,hrep,htr⟩:=id hs
  split at h
  ·rename_i b hb
   have hv:=aE3 (hb▸ag8 htr c)
   cases b with
   | true=>exact wpIn_cond_true hv (ihx (orL hN) hΓ hF hmk hnm A K Q s h hl a w hs)
   | false=>exact wpIn_cond_false hv (ihy (orR hN) hΓ hF hmk hnm A K Q s h hl a w hs)
  ·rename_i b hb
   have hv:=lit_inv (hb▸ag8 htr c)
   cases b with
   | true=>exact wpIn_cond_true hv (ihx (orL hN) hΓ hF hmk hnm A K Q s h hl a w hs)
   | false=>exact wpIn_cond_false hv (ihy (orR hN) hΓ hF hmk hnm A K Q s h hl a w hs)
  ·exact h.elim
 | block id c ih=>
  intro hN w0 X0 m r F nn hΓ hF hmk hnm A K Q s h hl a w hs
  refine wpIn_block (ih hN hΓ hF hmk hnm A _ _ s h (fun e s' a' w' hk hs'=>?_) a w hs)
  cases e with
  | normal=>exact hl _ s' a' w' hk hs'
  | exit i=>
   simp only [blockK] at hk
   simp only [SExit.lift,Exit.inBlock]
   split
   ·rename_i hi; rw [if_pos hi] at hk; exact hl .normal s' a' w' hk hs'
   ·rename_i hi; rw [if_neg hi] at hk; exact hl (.exit i) s' a' w' hk hs'
  | ret=>exact hl _ s' a' w' hk hs'
 | loop c ih=>
  intro hN w0 X0 m r F nn hΓ hF hmk hnm A K Q s h hl a w hs
  simp only [vc] at h
  split at h
  case h_2=>exact h.elim
  split at h
  case h_5=>exact h.elim
  ·rename_i I hI
   obtain ⟨⟨g0,⟨hp0⟩,hs0⟩,hround⟩:=h
   refine wpIn_loop_ghost (fun n a w=>∃ g,I.pre g/\I.meas g=n/\StR w0 X0 N (I.st g) a w) (I.meas g0) ⟨g0,hp0,rfl,hs.le hnm hs0.get.1 hs0.get.2⟩ ?_
   rintro n a w ⟨g,hp,rfl,hsg⟩
   refine ih hN hΓ hF hmk hnm A _ _ (I.st g) (hround g hp) (fun e s' a' w' hk hs'=>?_) a w hsg
   cases e with
   | normal=>
    obtain ⟨g',⟨hp'⟩,hle⟩:=hk
    obtain ⟨hle1,hle2,⟨hlt⟩⟩:=hle.get
    exact ⟨_,hlt,g',hp',rfl,hs'.le hnm hle1 hle2⟩
   | exit id=>exact hl _ s' a' w' hk hs'
   | ret=>exact hl _ s' a' w' hk hs'
  ·rename_i I sub hI
   obtain ⟨⟨g0,⟨hp0⟩,hs0⟩,hround⟩:=h
   refine wpIn_loop_ghost (fun n a w=>∃ g,I.pre g/\I.meas g=n/\StR w0 X0 N (I.st g) a w) (I.meas g0) ⟨g0,hp0,rfl,hs.le hnm hs0.get.1 hs0.get.2⟩ ?_
   rintro n a w ⟨g,hp,rfl,hsg⟩
   refine ih hN hΓ hF hmk hnm _ _ _ (I.st g) (hround g hp) (fun e s' a' w' hk hs'=>?_) a w hsg
   cases e with
   | normal=>
    obtain ⟨g',⟨hp'⟩,hle⟩:=hk
    obtain ⟨hle1,hle2,⟨hlt⟩⟩:=hle.get
    exact ⟨_,hlt,g',hp',rfl,hs'.le hnm hle1 hle2⟩
   | exit id=>exact hl _ s' a' w' hk hs'
   | ret=>exact hl _ s' a' w' hk hs'
  ·rename_i n hn
   refine wpIn_loop_rounds n ?_
   clear hn
   induction n generalizing s a w with
   | zero=>exact h.elim
   | succ n ihn=>
    rw [roundsIn_succ]
    refine ih hN hΓ hF hmk hnm A _ _ s h (fun e s' a' w' hk hs'=>?_) a w hs
    cases e with
    | normal=>exact ihn s' a' w' hs' hk
    | exit id=>exact hl _ s' a' w' hk hs'
    | ret=>exact hl _ s' a' w' hk hs'
  ·rename_i n I sub hn
   refine wpIn_loop_rounds n ?_
   clear hn
   generalize 0=k at h
   induction n generalizing s a w k with
   | zero=>exact h.elim
   | succ n ihn=>
    rw [roundsIn_succ]
    obtain ⟨hW,h⟩:=h
    refine ih hN hΓ hF hmk hnm _ _ _ (I k) h (fun e s' a' w' hk hs'=>?_) a w (hs.le hnm hW.get.1 hW.get.2)
    cases e with
    | normal=>exact ihn s' a' w' hs' (k+1) hk
    | exit id=>exact hl _ s' a' w' hk hs'
    | ret=>exact hl _ s' a' w' hk hs'
 | rangeFunc g ps assign body iha ihb=>
  intro hN w0 X0 m r F nn hΓ hF hmk hnm A K Q s h hl a w hs
  rcases hN with hN | hN
  ·exact iter_sound heqs hm (fun {w0 X0}=>iha (.inl hN) (hN w0 X0)) (fun {w0 X0}=>ihb (.inl hN) (hN w0 X0)) hF hmk hnm h hl hs
  ·cases hN
 | exit id=>intro hN w0 X0 m r F nn hΓ hF hmk hnm _ K Q s h hl a w hs; exact wpIn_exit (hl (.exit id) s a w h hs)
 | ret=>intro hN w0 X0 m r F nn hΓ hF hmk hnm _ K Q s h hl a w hs; exact wpIn_ret (hl .ret s a w h hs)
 | _=>intro hN w0 X0 m r F nn hΓ hF hmk hnm _ K Q s h; exact h.elim
theorem ba4 (hspecs:∀ s∈specs,aa2 P s) (heqs:∀ t n,(t,n)∈eqs->EqOK P t n) (hm:P.follows .mixedOrders=true) (c:Code) {w0:World}{X0:Fr}{m:Nat}{r:Bool}{F:Fence}{n:Nat}(hF:FrOK r F) (hmk:r=false->X0.marks=true) (hnm:∀ k,X0.nm k≠none->k<m) (A:Ann) (K:SK) (Q:Exit->Act->World->Prop) (s:St) (h:vc P specs eqs N m r A c K s) (hl:Lifts w0 X0 N K Q) (a:Act) (w:World) (hs:StR w0 X0 N s a w):c.wpIn F n P Q a w:=
 aE7 (Γ:=fun _ _=>True) (fun w0 X0 _ s hs=>(hspecs s hs).at w0 X0) heqs hm c (.inl fun _ _=>trivial) trivial hF hmk hnm A K Q s h hl a w hs
end
def resS (P:Program) (N:Nat) (s:St):List ResultVar->Option (Prop×List SV)
 | []=>some (True,[])
 | .tmp t::r=>match resS P N s r with
  | some (p,l)=>some (p,evO N s.τ (.tmp t)::l)
  | none=>none
 | .cell a T::r=>match tinf P T with
  | some ti=>match ad6 ti s.H (evO N s.τ (.tmp a)) with
   | some y=>match resS P N s r with
    | some (p,l)=>some (y.ask/\p,y.val::l)
    | none=>none
   | none=>none
  | none=>none
def oneOf:List SV->SV
 | [s]=>s
 | l=> .tup l.length (fun i=>l.getD i .any)
def vcRes (P:Program) (fn:Func) (res:SV) (s:St):Prop:=
 match resS P fn.ntmps s fn.results.toList with
 | some (p,l)=>p/\match as7 s.H (aH0 s.H 6 (oneOf l)) with
  | some fl=>match pur (ad9 s.H fl) 6 (oneOf l) with
   | some v=>SVle [] [] v res
   | none=>False
  | none=>False
 | none=>False
def retK (P:Program) (fn:Func) (res:SV):SK
 | .exit _,_=>False
 | _,s=>vcRes P fn res s
def av9:Nat->List SV->Tmps
 | _,[]=>[]
 | i,s::r=>(i,s)::av9 (i+1) r
theorem aA2:∀ (l:List SV) (i t:Nat),i<=t->ac8 (av9 i l) t=l.getD (t-i) .any
 | [],i,t,_=>by simp [av9,ac8]
 | s::r,i,t,h=>by
  simp only [av9,ac8]
  split
  ·rename_i he; subst he; simp
  ·rw [aA2 r (i+1) t (by omega),show t-i=(t-(i+1))+1 by omega,List.getD_cons_succ]
def bc2 (tmps:Array Value):ResultVar->Sem Value
 | .tmp t=>pure (tmps.getD t undef)
 | .cell c t=>do loadVar t (← asAddr (tmps.getD c undef))
theorem results_eq (fn:Func) (tmps:Array Value):results fn tmps=(fn.results.mapM (bc2 tmps) >>= fun vs=>pure (if h:vs.size=1 then vs[0] else .tuple vs)):=by
 unfold results
 congr 1
theorem az6 {P:Program}{n0 w0 X0 H E w N τ a} (h:Rep w0 X0 H E w) (ht:TR n0 w (Xo X0 E H) E N τ a):∀ (rs:List ResultVar) (p:Prop) (l:List SV),resS P N ⟨τ,H⟩ rs=some (p,l)->p->
  ∃ vs:List Value,(rs.mapM (bc2 a.tmps)).run P w = .ok vs w/\vs.length=l.length/\∀ i,i<l.length->R w (Xo X0 E H) E (l.getD i .any) (vs.getD i undef)
 | [],p,l,hr,_=>by
  simp only [resS,Option.some.injEq,Prod.mk.injEq] at hr
  obtain ⟨rfl,rfl⟩:=hr
  exact ⟨[],by simp,rfl,fun i hi=>absurd hi (Nat.not_lt_zero _)⟩
 | .tmp t::r,p,l,hr,hp=>by
  simp only [resS] at hr
  split at hr
  case h_2=>cases hr
  rename_i p' l' hr'
  simp only [Option.some.injEq,Prod.mk.injEq] at hr
  obtain ⟨rfl,rfl⟩:=hr
  obtain ⟨vs,h1,h2,h3⟩:=az6 h ht r p' l' hr' hp
  refine ⟨a.tmps.getD t undef::vs,by simp only [List.mapM_cons,bc2,Sem.run_bind,Sem.run_pure,Result.andThen_ok,h1],by simp [h2],fun i hi=>?_⟩
  cases i with
  | zero=>exact ag8 ht (.tmp t)
  | succ i=>exact h3 i (by simpa using hi)
 | .cell c T::r,p,l,hr,hp=>by
  simp only [resS] at hr
  split at hr
  case h_2=>cases hr
  rename_i ti hti
  split at hr
  case h_2=>cases hr
  rename_i y hy
  split at hr
  case h_2=>cases hr
  rename_i p' l' hr'
  simp only [Option.some.injEq,Prod.mk.injEq] at hr
  obtain ⟨rfl,rfl⟩:=hr
  obtain ⟨vs,h1,h2,h3⟩:=az6 h ht r p' l' hr' hp.2
  obtain ⟨ad,u,g1,g2,g3,g4⟩:=aO3 (P:=P) h hti (ag8 ht (.tmp c)) hy hp.1
  have g1':a.tmps.getD c undef = .pointer (some ad):=g1
  refine ⟨u::vs,by simp only [List.mapM_cons,bc2,g1',asAddr,Sem.run_bind,Sem.run_pure,Result.andThen_ok,g2,h1],by simp [h2],fun i hi=>?_⟩
  cases i with
  | zero=>exact g4
  | succ i=>exact h3 i (by simpa using hi)
def aa5 (f:FuncId) {γ:Type}(dec:List SV->Option γ) (args:γ->List SV) (pre:γ->Prop) (res:γ->SV):FSpec:=
 { f:=f,eff:=false,run:=fun l _ _=>match l.all (ac3 6) with
   | true=>match dec l with
     | some g=>some ⟨leArgs l (args g)/\Ask (pre g),res g,.keep⟩
     | none=>none
   | false=>none }
where leArgs:List SV->List SV->Prop
 | [],[]=>True
 | s::l,t::r=>SVle [] [] s t/\leArgs l r
 | _,_=>False
theorem al9:∀ {l r:List SV},aa5.leArgs l r->l.length=r.length/\∀ i,i<r.length->SVle [] [] (l.getD i .any) (r.getD i .any)
 | [],[],_=>⟨rfl,fun i hi=>absurd hi (Nat.not_lt_zero _)⟩
 | [],_::_,h=>h.elim
 | _::_,[],h=>h.elim
 | s::l,t::r,h=>by
  obtain ⟨h1,h2⟩:=h
  obtain ⟨h3,h4⟩:=al9 h2
  refine ⟨by simp [h3],fun i hi=>?_⟩
  cases i with
  | zero=>exact h1
  | succ i=>exact h4 i (by simpa using hi)
theorem a15 {w:World}{X X':Nat->Prop}(hx:∀ b,X' b->X b) {s t:SV}{v:Value}(hl:SVle [] [] s t) (hr:R w X E0 s v):R w X' E0 t v:=by
 have:=ag1 (H:=[]) (H':=[]) hx (E:=E0) (fun k ver v us h=>by cases h) hl hr
 rwa [E0_cut] at this
theorem az5 {w X E} {ss:List SV}{vs:Array Value}(h:ap4 w X E ss vs) (hp:ss.all (ac3 6)=true):∀ i,i<ss.length->R w X E0 (ss.getD i .any) (vs.getD i undef):=fun i hi=>by
 refine ad8 6 _ _ ?_ (h.2 i hi)
 rw [List.getD_eq_getElem?_getD,List.getElem?_eq_getElem hi]
 exact List.all_eq_true.1 hp _ (List.getElem_mem hi)
structure GOK (Γ:World->Fr->Prop):Prop where
 next:∀ {w0 X0 H E w X},Γ w0 X0->Rep w0 X0 H E w->Γ w (Fr.of X)
def a99 (Γ:World->Fr->Prop) (P:Program) (s:FSpec):Prop:=∀ w0 X0,Γ w0 X0->aj1 P w0 X0 s
theorem aa2.g {Γ:World->Fr->Prop}{P:Program}{s:FSpec}(h:aa2 P s):a99 Γ P s:=fun w0 X0 _=>h.at w0 X0
theorem an1 {P:Program}{s:FSpec}(h:∀ w0 X0,aj1 P w0 X0 s):aa2 P s:=
 ⟨(h default (Fr.of fun _=>False)).1,(h default (Fr.of fun _=>False)).2.1,fun args H nm y hr ha w0 X0 E w hrep hf vals hA=>(h w0 X0).2.2 args H nm y hr ha E w hrep hf vals hA⟩
def topG:World->Fr->Prop:=fun _ _=>True
theorem topG_ok:GOK topG:=⟨fun _ _=>trivial⟩
theorem bb1 {Γ:World->Fr->Prop}(hG:GOK Γ) {P:Program}{f:FuncId}{γ:Type}{dec:List SV->Option γ}{args:γ->List SV}{pre:γ->Prop}{res:γ->SV}(hent:∀ args w,(callFunc f args).run P w = .ok (.enter f args) w)
  (h:∀ g,pre g->∀ (vals:Array Value) (w:World) (X:Nat->Prop),vals.size=(args g).length->(∀ i,i<(args g).length->R w X E0 ((args g).getD i .any) (vals.getD i undef))->(∀ b,X b->b<w.heap.size)->Γ w (Fr.of X)->
   Calls P f vals w fun e w'=>∃ v,e = .returned v/\R w' X E0 (res g) v/\Below w.heap.size w w'):a99 Γ P (aa5 f dec args pre res):=by
 refine fun w0 X0 hΓ=>⟨hent,fun args H HF nm y _ _ h=>h,fun l H nm y hrun hp E w hrep hf vals ha=>?_⟩
 simp only [aa5] at hrun
 split at hrun
 case h_2=>cases hrun
 rename_i hpu
 split at hrun
 case h_2=>cases hrun
 rename_i g hdec
 cases hrun
 obtain ⟨hle,⟨hpre⟩⟩:=hp
 obtain ⟨hll,hle⟩:=al9 hle
 have hr:=az5 ha hpu
 have hsz:=ha.1
 refine (h g hpre vals w (Xo X0 E H) (by omega) (fun i hi=>a15 (fun _ hb=>hb) (hle i hi) (hr i (by omega))) hrep.xlt (hG.next hΓ hrep)).mono ?_
 rintro e w' ⟨v,rfl,h1,h2⟩
 exact ⟨v,rfl,Goes.world hrep h2 (up h1)⟩
theorem aF6 {P:Program}{f:FuncId}{γ:Type}{dec:List SV->Option γ}{args:γ->List SV}{pre:γ->Prop}{res:γ->SV}(hent:∀ args w,(callFunc f args).run P w = .ok (.enter f args) w)
  (h:∀ g,pre g->∀ (vals:Array Value) (w:World) (X:Nat->Prop),vals.size=(args g).length->(∀ i,i<(args g).length->R w X E0 ((args g).getD i .any) (vals.getD i undef))->(∀ b,X b->b<w.heap.size)->
   Calls P f vals w fun e w'=>∃ v,e = .returned v/\R w' X E0 (res g) v/\Below w.heap.size w w'):aa2 P (aa5 f dec args pre res):=
 an1 fun w0 X0=>bb1 topG_ok hent (fun g hp vals w X hs hr hX _=>h g hp vals w X hs hr hX) w0 X0 trivial
theorem ap1 (N:Nat) (vals:Array Value) (l:List SV) (w:World) (X:Nat->Prop) (E:Env) (hsz:vals.size=l.length) (hlen:l.length<=N) (hr:∀ i,i<l.length->R w X E (l.getD i .any) (vals.getD i undef)) :
  (vals++Array.replicate (N-vals.size) undef).size=N/\∀ t,t<N->R w X E (ac8 (av9 0 l) t) ((vals++Array.replicate (N-vals.size) undef).getD t undef):=by
 refine ⟨by simp only [Array.size_append,Array.size_replicate]; omega,fun t ht=>?_⟩
 rw [aA2 _ _ _ (Nat.zero_le _),Nat.sub_zero]
 by_cases hlt:t<l.length
 ·have e1:(vals++Array.replicate (N-vals.size) undef).getD t undef=vals.getD t undef:=by
   rw [Array.getD_eq_getD_getElem?,Array.getElem?_append_left (by omega),Array.getD_eq_getD_getElem?]
  rw [e1]
  exact hr t hlt
 ·rw [List.getD_eq_getElem?_getD,List.getElem?_eq_none (Nat.not_lt.1 hlt)]
  exact .any
theorem al2 {P:Program}{n0 w0 X0 H E w N τ a} {fn:Func}(hN:N=fn.ntmps) (hrep:Rep w0 X0 H E w) (htr:TR n0 w (Xo X0 E H) E N τ a) {p:Prop}{l:List SV}(hres:resS P fn.ntmps ⟨τ,H⟩ fn.results.toList=some (p,l)) (hp:p) :
  ∃ v,(results fn a.tmps).run P w = .ok v w/\R w (Xo X0 E H) E (oneOf l) v:=by
 subst hN
 obtain ⟨vs,h1,h2,h3⟩:=az6 (P:=P) hrep htr _ _ _ hres hp
 have hrun:(results fn a.tmps).run P w = .ok (if hh:vs.toArray.size=1 then vs.toArray[0] else .tuple vs.toArray) w:=by
  rw [results_eq,Array.mapM_eq_mapM_toList (m:=Sem)]
  simp only [bind_map_left,Sem.run_bind,h1,Result.andThen_ok,Sem.run_pure]
 refine ⟨_,hrun,?_⟩
 match l,vs,h2,h3 with
 | [s1],[v1],_,h3=>exact h3 0 (by simp)
 | [],[],_,h3=>exact .tup rfl fun i hi=>absurd hi (Nat.not_lt_zero _)
 | s1::s2::l,v1::v2::vs,h2,h3=>
  rw [dif_neg (by simp)]
  refine .tup (by simpa using h2) fun i hi=>?_
  have:=h3 i hi
  simpa [Array.getD_eq_getD_getElem?,List.getD_eq_getElem?_getD] using this
theorem LeavesInM.taken {P:Program}{fn:Func}{R:Ending->World->Prop}{w0 X0 N s} {tmps:Array Value}(G:∀ (a:Act) (w:World),a.tmps=tmps->a.defers=[]->StR w0 X0 N s a w->∃ v,(results fn a.tmps).run P w = .ok v w/\R (.returned v) w) :
  ∀ (ds:List Deferred) (a:Act) (w:World),a.tmps=tmps->a.defers=ds->StR w0 X0 N s a w->LeavesInM Fence.wide 0 P fn tmps R ds .returning w
 | [],a,w,ht,hd,hs=>by
  obtain ⟨v,h1,h2⟩:=G a w ht hd hs
  rw [ht] at h1
  exact ⟨v,h1,h2⟩
 | d::ds,a,w,ht,hd,hs=>by
  obtain ⟨E,hrep,htr⟩:=hs
  obtain ⟨hno,hp,hall⟩:=htr.2.1
  rw [hd] at hno hp hall
  have hmk:X0.n0 w0=some w0.heap.size:=by
   unfold Fr.n0 at hno ⊢
   split at hno
   ·rfl
   ·cases hno rfl
  obtain ⟨D,rfl,h1,h2,h3⟩:=hall d List.mem_cons_self
  refine ⟨by simp,.inl ⟨D,_,rfl,run_takeDeferred h2,?_⟩⟩
  refine LeavesInM.taken G ds { a with defers:=ds } _ ht rfl ⟨E,hrep.turn (h1 _ hmk) h2 (.inl ⟨_,rfl⟩),htr.1,⟨fun hc=>(by rw [hmk] at hc; cases hc),(List.pairwise_cons.1 hp).2,fun d' hd'=>?_⟩,fun t ht'=>(htr.2.2 t ht').turn (ar1.putObj h2 (.inl ⟨_,rfl⟩))⟩
  obtain ⟨D',rfl,g1,g2,g3⟩:=hall d' (List.mem_cons_of_mem _ hd')
  refine ⟨D',rfl,g1,(World.putObj_heap_other fun hc=>?_).trans g2,g3⟩
  subst hc
  exact (List.pairwise_cons.1 hp).1 _ hd' rfl
theorem aq7 {P:Program}{f:FuncId}{fn:Func}{c:Code}{args:Array Value}{w:World}{R:Ending->World->Prop}{w0 X0} {G:St->Prop}(hf:P.funcs[f]?=some fn) (hb:fn.body=some c)
  (h:c.wpIn Fence.wide 0 P (fun e a w'=>match e with | .normal=>∃ s,G s/\StR w0 X0 fn.ntmps s a w' | .ret=>∃ s,G s/\StR w0 X0 fn.ntmps s a w' | _=>False) { tmps:=args++Array.replicate (fn.ntmps-args.size) undef,defers:=[] } w)
  (fin:∀ s (a:Act) w',G s->a.defers=[]->StR w0 X0 fn.ntmps s a w'->∃ v,(results fn a.tmps).run P w' = .ok v w'/\R (.returned v) w'):Calls P f args w R:=by
 refine callsIn_wide.1 (callsIn_of_wp_marks (n:=0) hf hb trivial (wpIn_mono h fun e a w' hq=>?_) rfl)
 cases e with
 | normal=>
  obtain ⟨s,hg,hs⟩:=hq
  exact LeavesInM.taken (fun a' w' _ hd hs=>fin s a' w' hg hd hs) a.defers a w' rfl rfl hs
 | ret=>
  obtain ⟨s,hg,hs⟩:=hq
  exact LeavesInM.taken (fun a' w' _ hd hs=>fin s a' w' hg hd hs) a.defers a w' rfl rfl hs
 | exit id=>exact hq.elim
 | goto t=>exact hq.elim
 | panic ch=>exact hq.elim
 | outgrown=>exact hq.elim
theorem a06 {Γ:World->Fr->Prop}(hG:GOK Γ) {P:Program}{specs:List FSpec}(hspecs:∀ s∈specs,a99 Γ P s) {eqs:List (TypeId×List CK)}(heqs:∀ t n,(t,n)∈eqs->EqOK P t n) (hm:P.follows .mixedOrders=true)
  {f:FuncId}{fn:Func}{body:Code}(hf:P.funcs[f]?=some fn) (hb:fn.body=some body) (_:codeB (effS specs) body=true) (hN:(∀ w0 X0,Γ w0 X0)\/noRF body=true) (hent:∀ args w,(callFunc f args).run P w = .ok (.enter f args) w)
  {γ:Type}{dec:List SV->Option γ}{args:γ->List SV}{pre:γ->Prop}{res:γ->SV}(A:γ->Ann) (hlen:∀ g,(args g).length<=fn.ntmps)
  (h:∀ g,pre g->vc P specs eqs fn.ntmps 0 false (A g) body (retK P fn (res g)) ⟨av9 0 (args g),[]⟩):a99 Γ P (aa5 f dec args pre res):=by
 refine bb1 hG hent fun g hpre vals w X hsz hr hX hΓ=>?_
 have hvc:=h g hpre
 refine aq7 (w0:=w) (X0:=Fr.of X) (G:=vcRes P fn (res g)) hf hb (aE7 (Γ:=Γ) (w0:=w) (X0:=Fr.of X) (fun w0 X0 h s hs=>hspecs s hs w0 X0 h) heqs hm body hN hΓ (.inl rfl) (fun _=>rfl) (fun k hk=>absurd rfl hk) _ _ _ _ hvc (fun e s a w' hk hs=>?walk) _ w ?start) (fun s a w' hk _ hs=>?fin)
 case walk=>
  cases e with
  | normal=>exact ⟨s,hk,hs⟩
  | ret=>exact ⟨s,hk,hs⟩
  | exit id=>exact hk.elim
 case fin=>
   obtain ⟨E,hrep,htr⟩:=hs
   unfold vcRes at hk
   split at hk
   case h_2=>exact hk.elim
   rename_i p l hres
   obtain ⟨hp,hk⟩:=hk
   obtain ⟨v,hv1,hv2⟩:=al2 rfl hrep htr hres hp
   split at hk
   case h_2=>exact hk.elim
   rename_i fl hfl
   split at hk
   case h_2=>exact hk.elim
   rename_i sv hsv
   obtain ⟨g1,g2⟩:=ag6 _ _ _ hrep hfl
   have hpure:=ao3 g1 6 _ _ _ hsv (hv2.mono (fun _ _ _=>rfl) g2 (Env.le_refl _))
   exact ⟨v,hv1,v,rfl,a15 (fun b hb=> .inl hb) hk hpure,hrep.below.all⟩
 case start=>
  have hxo:Xo (Fr.of X) E0 []=X:=by
   funext b
   apply propext
   exact ⟨fun hb=>hb.elim id (fun ⟨k,e,he,_⟩=>(nomatch he)),fun hb=>Or.inl hb⟩
  have hT:=ap1 fn.ntmps vals (args g) w X E0 hsz (hlen g) hr
  refine ⟨E0,⟨Bel.refl _ _,fun b hb=>⟨hX b hb,id⟩,fun k e he=>(nomatch he),fun k e he=>(nomatch he),fun k e he=>(nomatch he),fun k e b he=>(nomatch he),fun k k' e e' b he=>(nomatch he)⟩,hT.1,au4.nil _ _ _,fun t ht=>?_⟩
  rw [hxo]
  exact hT.2 t ht
theorem aa1 {P:Program}{specs:List FSpec}(hspecs:∀ s∈specs,aa2 P s) {eqs:List (TypeId×List CK)}(heqs:∀ t n,(t,n)∈eqs->EqOK P t n) (hm:P.follows .mixedOrders=true)
  {f:FuncId}{fn:Func}{body:Code}(hf:P.funcs[f]?=some fn) (hb:fn.body=some body) (hc:codeB (effS specs) body=true) (hent:∀ args w,(callFunc f args).run P w = .ok (.enter f args) w)
  {γ:Type}{dec:List SV->Option γ}{args:γ->List SV}{pre:γ->Prop}{res:γ->SV}(A:γ->Ann) (hlen:∀ g,(args g).length<=fn.ntmps)
  (h:∀ g,pre g->vc P specs eqs fn.ntmps 0 false (A g) body (retK P fn (res g)) ⟨av9 0 (args g),[]⟩):aa2 P (aa5 f dec args pre res):=
 an1 fun w0 X0=>a06 topG_ok (fun s hs=>(hspecs s hs).g) heqs hm hf hb hc (.inl fun _ _=>trivial) hent A hlen h w0 X0 trivial
end Go.Proofs.YthappngbapbkfaaGreat.Sx
namespace Go.Proofs.YthappngbapbkfaaGreat.Sx
open Go.RowKit
def aO2 (P:Program) (rec:TypeId->Option (List CK)):List Field->Nat->Option (List CK)
 | [],_=>some []
 | f :: fs, off => if f.name ≠ "_" ∧ f.offset = off then match rec f.type with
   | some ks=>match tinf P f.type with
    | some (m,_)=>if m=ks.length/\0<m then match aO2 P rec fs (off+m) with
      | some r=>some (ks++r)
      | none=>none
     else none
    | none=>none
   | none=>none
  else none
def rep (ks:List CK):Nat->List CK
 | 0=>[]
 | n+1=>ks++rep ks n
def aI3 (P:Program):Nat->TypeId->Option (List CK)
 | 0,_=>none
 | d+1,t=>match P.underlying t with
  | some .bool=>some [.bool]
  | some (.int _)=>some [.int]
  | some .string=>some [.str]
  | some (.array len e)=>match aI3 P d e with
   | some ks=>match tinf P e with
    | some (m,_)=>if m=ks.length/\0<m then some (rep ks len) else none
    | none=>none
   | none=>none
  | some (.struct fs)=>if P.stoodInHeld t=true then none else aO2 P (aI3 P d) fs.toList 0
  | _=>none
theorem ao0 {g f:Nat->SV}:∀ {l r:List CK}{i:Nat}{b:Bool},af4 g f (l++r) i=some b->∃ c t,af4 g f l i=some c/\af4 g f r (i+l.length)=some t/\b=(c&&t)
 | [],r,i,b,h=>⟨true,b,rfl,by simpa using h,by simp⟩
 | k::l,r,i,b,h=>by
  simp only [List.cons_append,af4] at h ⊢
  cases h1:eqC k (g i) (f i) with
  | none=>rw [h1] at h; cases h
  | some c=>
   cases h2:af4 g f (l++r) (i+1) with
   | none=>rw [h1,h2] at h; cases h
   | some t=>
    rw [h1,h2] at h
    cases h
    obtain ⟨c',t',h3,h4,rfl⟩:=ao0 h2
    rw [h3]
    exact ⟨_,t',rfl,by rw [List.length_cons,show i+(l.length+1)=i+1+l.length by omega]; exact h4,by simp [Bool.and_assoc]⟩
theorem az2 {g f:Nat->SV}:∀ {l:List CK}{i off:Nat},af4 g f l (off+i)=af4 (fun j=>g (off+j)) (fun j=>f (off+j)) l i
 | [],_,_=>rfl
 | k::l,i,off=>by simp only [af4]; rw [show off+i+1=off+(i+1) by omega,az2]
def KindOK (P:Program) (t:TypeId):CK->Prop
 | .int=>∃ k,P.underlying t=some (.int k)
 | .bool=>P.underlying t=some .bool
 | .str=>P.underlying t=some .string
theorem eqC_sound {P:Program}{w X E} {t:TypeId}{k:CK}{s r:SV}{x y:Value}{c:Bool}(hs:R w X E s x) (hr:R w X E r y) (he:eqC k s r=some c) (D:Nat)
  (hu:KindOK P t k):(Op.equalIn (D+1) t x y).run P w = .ok c w:=by
 cases k with
 | int=>
  simp only [eqC] at he
  split at he
  ·rename_i k a k' b
   obtain ⟨hk,rfl⟩:=aa0 he
   subst hk
   obtain ⟨k0,h0⟩:=hu
   rw [am5 hs,am5 hr,run_equalIn_int w D t k k0 a b h0,beq_eq_decide]
  ·cases he
 | bool=>
  simp only [eqC] at he
  split at he
  ·rename_i a b ha hb
   cases he
   rw [aB3 ha hs,aB3 hb hr]
   exact run_equalIn_bool' w D t a b hu
  ·cases he
 | str=>
  simp only [eqC] at he
  split at he
  ·rename_i a b
   cases he
   cases hs
   cases hr
   exact run_equalIn_string w D t a b hu
  ·cases he
def Cmp (w:World) (X:Nat->Prop) (E:Env) (n:Nat) (agg:Bool) (g f:Nat->SV) (x y:Value):Prop:=
 if agg=true then ∃ xs ys,x = .agg xs/\y = .agg ys/\xs.size=n/\ys.size=n/\(∀ i,i<n->R w X E (g i) (xs.getD i undef))/\(∀ i,i<n->R w X E (f i) (ys.getD i undef))
 else R w X E (g 0) x/\R w X E (f 0) y
theorem bc5 {P:Program}{w X E} {t:TypeId}{m:Nat}{ag:Bool}(ht:tinf P t=some (m,ag)) {n off:Nat}{g:Nat->SV}{cs:Array Value}(hs:cs.size=n) (hm:0<m) (hle:off+m<=n)
  (h:∀ i,i<n->R w X E (g i) (cs.getD i undef)) :
  ∃ v,(Go.part t cs off).run P w = .ok v w/\(if ag=true then ∃ vs,v = .agg vs/\vs.size=m/\∀ i,i<m->R w X E (g (off+i)) (vs.getD i undef) else R w X E (g off) v):=by
 obtain ⟨h1,h2⟩:=ak1 ht w
 cases ag with
 | true=>
  have hg:∀ i,i<m->(cs.extract off (off+m)).getD i undef=cs.getD (off+i) undef:=fun i hi=>by
   rw [Array.getD_eq_getD_getElem?,Array.getElem?_extract,if_pos (by omega),Array.getD_eq_getD_getElem?]
  refine ⟨.agg (cs.extract off (off+m)),by simp [Go.part,h1,h2],?_⟩
  rw [if_pos rfl]
  exact ⟨_,rfl,by rw [Array.size_extract]; omega,fun i hi=>by rw [hg i hi]; exact h _ (by omega)⟩
 | false=>
  have:cs[off]?=some (cs.getD off undef):=by rw [Array.getD_eq_getD_getElem?,Array.getElem?_eq_getElem (by omega)]; rfl
  refine ⟨cs.getD off undef,by simp only [Go.part,Sem.run_bind,h1,Result.andThen_ok,this,Bool.false_eq_true,if_false,Sem.run_pure],?_⟩
  rw [if_neg (by simp)]
  exact h _ (by omega)
theorem tinf_of {P:Program}{t:TypeId}{m:Nat}{a:Bool}(h:tinf P t=some (m,a)):∃ i d,P.info? t=some i/\P.underlying t=some d/\i.size=m/\a=(match d with | .struct _ | .array _ _=>true | _=>false):=by
 unfold tinf at h
 cases hi:P.info? t with
 | none=>simp [hi] at h
 | some i=>
  cases hd:P.underlying t with
  | none=>simp [hi,hd] at h
  | some d=>
   simp only [hi,hd,Option.some.injEq,Prod.mk.injEq] at h
   exact ⟨i,d,rfl,rfl,h.1,h.2.symm⟩
theorem flat_eq {P:Program}{w:World}{X:Nat->Prop}{E:Env}:∀ (d:Nat) (t:TypeId) (ks:List CK),aI3 P d t=some ks->∀ (m:Nat) (ag:Bool),tinf P t=some (m,ag)->m=ks.length->0<m->∀ (D:Nat),d<=D->∀ (g f:Nat->SV) (x y:Value) (b:Bool),
  Cmp w X E m ag g f x y->af4 g f ks 0=some b->(Op.equalIn D t x y).run P w = .ok b w:=by
 intro d
 induction d with
 | zero=>intro t ks h; simp [aI3] at h
 | succ d ih=>
  intro t ks h m ag hti hm hpos D hD g f x y b hc he
  obtain ⟨D,rfl⟩:∃ D',D=D'+1:=⟨D-1,by omega⟩
  obtain ⟨i,dd,hi,hd,hsz,hag⟩:=tinf_of hti
  have sub:∀ (t':TypeId) (ks':List CK) (m':Nat) (ag':Bool),aI3 P d t'=some ks'->tinf P t'=some (m',ag')->m'=ks'.length->0<m'->∀ (n off:Nat) (xs ys:Array Value) (c:Bool),xs.size=n->ys.size=n->off+m'<=n->
    (∀ i,i<n->R w X E (g i) (xs.getD i undef))->(∀ i,i<n->R w X E (f i) (ys.getD i undef))->af4 g f ks' off=some c->
    ∃ u v,(Go.part t' xs off).run P w = .ok u w/\(Go.part t' ys off).run P w = .ok v w/\(Op.equalIn D t' u v).run P w = .ok c w:=by
   intro t' ks' m' ag' hf' hti' hm' hpos' n off xs ys c hxs hys hle hx hy hcc
   obtain ⟨u,hu,hu2⟩:=bc5 (P:=P) hti' hxs hpos' hle hx
   obtain ⟨v,hv,hv2⟩:=bc5 (P:=P) hti' hys hpos' hle hy
   refine ⟨u,v,hu,hv,ih t' ks' hf' m' ag' hti' hm' hpos' D (by omega) (fun j=>g (off+j)) (fun j=>f (off+j)) u v c ?_ ?_⟩
   ·unfold Cmp
    cases ag' with
    | true=>
     simp only [if_true] at hu2 hv2 ⊢
     obtain ⟨us,rfl,h1,h2⟩:=hu2
     obtain ⟨vs,rfl,h3,h4⟩:=hv2
     exact ⟨us,vs,rfl,rfl,h1,h3,h2,h4⟩
    | false=>
     simp only [Bool.false_eq_true,if_false] at hu2 hv2 ⊢
     exact ⟨hu2,hv2⟩
   ·rw [<-az2]; exact hcc
  simp only [aI3,hd] at h
  have scal:∀ (k:CK),KindOK P t k->ks=[k]->ag=false->(Op.equalIn (D+1) t x y).run P w = .ok b w:=by
   intro k hk hks ha
   subst hks
   subst ha
   unfold Cmp at hc
   rw [if_neg (by simp)] at hc
   simp only [af4] at he
   cases hq:eqC k (g 0) (f 0) with
   | none=>rw [hq] at he; cases he
   | some c=>
    rw [hq] at he
    simp only [Option.some.injEq,Bool.and_true] at he
    subst he
    exact eqC_sound hc.1 hc.2 hq D hk
  cases dd with
  | bool=>cases h; exact scal .bool hd rfl hag
  | int k=>cases h; exact scal .int ⟨k,hd⟩ rfl hag
  | string=>cases h; exact scal .str hd rfl hag
  | array len e=>
   subst hag
   unfold Cmp at hc
   rw [if_pos rfl] at hc
   obtain ⟨xs,ys,rfl,rfl,hxs,hys,hx,hy⟩:=hc
   simp only at h
   cases hf':aI3 P d e with
   | none=>rw [hf'] at h; cases h
   | some ks'=>
    rw [hf'] at h
    cases hti':tinf P e with
    | none=>rw [hti'] at h; cases h
    | some q=>
     obtain ⟨m',ag'⟩:=q
     rw [hti'] at h
     simp only at h
     obtain ⟨⟨hm',hpos'⟩,rfl⟩:=aa0 h
     obtain ⟨i',dd',hi',_,hsz',_⟩:=tinf_of hti'
     have am9:P.cellsOf e=m':=by unfold Program.cellsOf; rw [hi']; exact hsz'
     rw [run_equalIn_array w D xs ys hd hi',am9]
     have hlen:∀ n,(rep ks' n).length=n*m':=by
      intro n
      induction n with
      | zero=>simp [rep]
      | succ n ihn=>simp only [rep,List.length_append,ihn,<-hm']; rw [Nat.add_mul]; omega
     have key:∀ (k j:Nat) (c:Bool),(j+k)*m'<=m->af4 g f (rep ks' k) (j*m')=some c->(Op.eqItems D e m' xs ys (List.range' j k)).run P w = .ok c w:=by
      intro k
      induction k with
      | zero=>intro j c _ hc; simp only [rep,af4,Option.some.injEq] at hc; subst hc; simp [Op.eqItems]
      | succ k ihk=>
       intro j c hle hc
       obtain ⟨c1,c2,e1,e2,rfl⟩:=ao0 hc
       have hle2:j*m'+m'<=m:=by
        have:(j+1)*m'<=(j+(k+1))*m':=Nat.mul_le_mul_right _ (by omega)
        rw [Nat.add_mul] at this
        omega
       obtain ⟨u,v,p1,p2,p3⟩:=sub e ks' m' ag' hf' hti' hm' hpos' m (j*m') xs ys c1 hxs hys hle2 hx hy e1
       have ih2:=ihk (j+1) c2 (by rw [show j+1+k=j+(k+1) by omega]; exact hle) (by rw [Nat.add_mul,Nat.one_mul,hm']; rw [hm'] at e2; exact e2)
       rw [List.range'_succ]
       simp only [Op.eqItems,Sem.run_bind,p1,p2,p3,Result.andThen_ok,Sem.run_ite,ih2,Sem.run_pure]
       cases c1<;>simp
     rw [List.range_eq_range']
     exact key len 0 b (by rw [Nat.zero_add,hm,hlen]; exact Nat.le_refl _) (by rw [Nat.zero_mul]; exact he)
  | struct fs=>
   subst hag
   unfold Cmp at hc
   rw [if_pos rfl] at hc
   obtain ⟨xs,ys,rfl,rfl,hxs,hys,hx,hy⟩:=hc
   simp only at h
   split at h
   ·cases h
   ·rename_i hst
    have hfo:P.fieldsOf t=fs:=by unfold Program.fieldsOf; rw [hd]
    rw [run_equalIn_struct w D t xs ys (by rw [hfo]; exact hd) (by simpa using hst),hfo]
    have key:∀ (l:List Field) (off:Nat) (ks:List CK) (c:Bool),aO2 P (aI3 P d) l off=some ks->off+ks.length<=m->af4 g f ks off=some c->(Op.eqFields D xs ys l).run P w = .ok c w:=by
     intro l
     induction l with
     | nil=>intro off ks c hfl _ hc; simp only [aO2,Option.some.injEq] at hfl; subst hfl; simp only [af4,Option.some.injEq] at hc; subst hc; simp [Op.eqFields]
     | cons fd l ihl=>
      intro off ks c hfl hle hc
      simp only [aO2] at hfl
      split at hfl
      case isFalse=>cases hfl
      rename_i hcond
      obtain ⟨hname,hoff⟩:=hcond
      cases hf':aI3 P d fd.type with
      | none=>rw [hf'] at hfl; cases hfl
      | some ks'=>
       rw [hf'] at hfl
       cases hti':tinf P fd.type with
       | none=>rw [hti'] at hfl; cases hfl
       | some q=>
        obtain ⟨m',ag'⟩:=q
        rw [hti'] at hfl
        simp only at hfl
        split at hfl
        case isFalse=>cases hfl
        rename_i hmm
        obtain ⟨hm',h0⟩:=hmm
        cases hr:aO2 P (aI3 P d) l (off+m') with
        | none=>rw [hr] at hfl; cases hfl
        | some r=>
         rw [hr] at hfl
         cases hfl
         obtain ⟨c1,c2,e1,e2,rfl⟩:=ao0 hc
         rw [List.length_append] at hle
         ·obtain ⟨u,v,p1,p2,p3⟩:=sub fd.type ks' m' ag' hf' hti' hm' h0 m off xs ys c1 hxs hys (by omega) hx hy e1
          have ih2:=ihl (off+m') r c2 hr (by omega) (by rw [hm']; exact e2)
          rw [<-hoff] at p1 p2
          simp only [Op.eqFields,ne_eq,hname,not_false_eq_true,if_true,Sem.run_bind,p1,p2,p3,Result.andThen_ok,Sem.run_ite,ih2,Sem.run_pure]
          cases c1<;>simp
    exact key fs.toList 0 ks b h (by rw [Nat.zero_add,hm]; exact Nat.le_refl _) he
  | _=>simp at h
theorem aB2 {P:Program}{t:TypeId}{ks:List CK}(h:aI3 P 8 t=some ks) {m:Nat}(ht:tinf P t=some (m,true)) (hm:m=ks.length) (hpos:0<m) (hg:P.eqGuardType P.depth t=false):EqOK P t ks:=by
 intro w X E g f xs ys b hx hy he hrx hry x y
 refine ⟨run_eqGuard_agg w .eql t x y xs ys hg,run_eqGuard_agg w .neq t x y xs ys hg,?_⟩
 refine flat_eq (X:=X) (E:=E) 8 t ks h m true ht hm hpos 10000 (by omega) g f _ _ b ?_ he
 unfold Cmp
 rw [if_pos rfl]
 exact ⟨xs,ys,rfl,rfl,by omega,by omega,fun i hi=>hrx i (by omega),fun i hi=>hry i (by omega)⟩
theorem ab5 {A B:Prop}(h:A=B) (hb:B):A:=h▸hb
def AllOK (P:Program):List FSpec->Prop
 | []=>True
 | s::r=>aa2 P s/\AllOK P r
theorem aa9 {P:Program}:∀ {l:List FSpec},AllOK P l->∀ s∈l,aa2 P s
 | [],_,s,hs=>(List.not_mem_nil hs).elim
 | t::r,h,s,hs=>by
  rcases List.mem_cons.1 hs with rfl | hs
  ·exact h.1
  ·exact aa9 h.2 s hs
def AllEq (P:Program):List (TypeId×List CK)->Prop
 | []=>True
 | e::r=>EqOK P e.1 e.2/\AllEq P r
theorem all_eq {P:Program}:∀ {l:List (TypeId×List CK)},AllEq P l->∀ t n,(t,n)∈l->EqOK P t n
 | [],_,t,n,hs=>(List.not_mem_nil hs).elim
 | e::r,h,t,n,hs=>by
  rcases List.mem_cons.1 hs with he | hs
  ·have:=h.1; rw [<-he] at this; exact this
  ·exact all_eq h.2 t n hs
def lst (l:List SV) (i:Nat):SV:=l.getD i .any
def intOf:SV->Int
 | .int _ n=>n
 | _=>0
def az4:SV->Bool
 | .bool b=>b
 | .lit b=>b
 | _=>false
def A0:Ann:=⟨[],[]⟩
end Go.Proofs.YthappngbapbkfaaGreat.Sx
namespace Go.Proofs.YthappngbapbkfaaGreat.Sx
open Go.RowKit
def ae7:SV->Prop
 | .fn _ _ g=>∀ i,ae7 (g i)
 | .fnb _ _ g=>∀ i,ae7 (g i)
 | .agg _ g=>∀ i,ae7 (g i)
 | .tup _ g=>∀ i,ae7 (g i)
 | .sl _ _ g=>∀ i j,ae7 (g i j)
 | .slN ..=>False
 | .ref _ g=>∀ i,ae7 (g i)
 | .own ..=>False
 | .osl ..=>False
 | .ownAt ..=>False
 | .win ..=>False
 | .omap _=>False
 | .pin ..=>False
 | .part ..=>False
 | .slP ..=>False
 | .refP _=>False
 | .ifc _ g=>∀ i,ae7 (g i)
 | _=>True
theorem aq8 {p:Nat->Prop}(h:∀ i,p i):∀ n,allN n p
 | 0=>trivial
 | n+1=>⟨aq8 h n,h n⟩
theorem SVle.refl:∀ {s:SV}(H H':List SO),ae7 s->SVle H H' s s:=by
 intro s
 induction s with
 | any=>intro H H' _; exact trivial
 | int k n=>intro H H' _; exact ⟨⟨rfl⟩,⟨rfl⟩⟩
 | bool b=>intro H H' _; exact ⟨rfl⟩
 | lit b=>intro H H' _; exact ⟨rfl⟩
 | str b=>intro H H' _; exact ⟨rfl⟩
 | nilfn=>intro H H' _; exact trivial
 | cap0=>intro H H' _; exact trivial
 | fn f n g ih=>intro H H' h; simp only [SVle,if_true]; exact ⟨⟨trivial⟩,aq8 (fun i=>ih i H H' (h i)) n⟩
 | fnb f n g ih=>intro H H' h; simp only [SVle,if_true]; exact ⟨⟨trivial⟩,aq8 (fun i=>ih i H H' (h i)) n⟩
 | agg n g ih=>intro H H' h; simp only [SVle,if_true]; exact aq8 (fun i=>ih i H H' (h i)) n
 | tup n g ih=>intro H H' h; simp only [SVle,if_true]; exact aq8 (fun i=>ih i H H' (h i)) n
 | sl len n g ih=>intro H H' h; simp only [SVle,if_true]; exact ⟨⟨trivial⟩,fun i _=>aq8 (fun j=>ih i j [] [] (h i j)) n⟩
 | ref n g ih=>intro H H' h; simp only [SVle,Nat.le_refl,if_true]; exact aq8 (fun i=>ih i [] [] (h i)) n
 | own k off=>intro H H' h; exact h.elim
 | osl k ver=>intro H H' h; exact h.elim
 | ownAt k ver i n off=>intro H H' h; exact h.elim
 | win k ver n lo len=>intro H H' h; exact h.elim
 | con v=>intro H H' _; exact ⟨rfl⟩
 | pin=>intro H H' h; exact h.elim
 | part=>intro H H' h; exact h.elim
 | slP=>intro H H' h; exact h.elim
 | refP=>intro H H' h; exact h.elim
 | ifc T g ih=>intro H H' h; exact ⟨⟨rfl⟩,ih 0 H H' (h 0)⟩
 | omap k=>intro H H' h; exact h.elim
 | nilsl=>intro H H' _; exact trivial
 | slN=>intro H H' h; exact h.elim
def aC0:List SV->Prop
 | []=>True
 | s::l=>ae7 s/\aC0 l
theorem aq3:∀ {l:List SV},aC0 l->aa5.leArgs l l
 | [],_=>trivial
 | _::_,h=>⟨SVle.refl [] [] h.1,aq3 h.2⟩
theorem as5:∀ {l:List SV},aC0 l->∀ i,ae7 (lst l i)
 | [],_,_=>trivial
 | _::_,h,0=>h.1
 | _::_,h,i+1=>as5 h.2 i
def RL (w:World) (X:Nat->Prop):List SV->List Value->Prop
 | [],[]=>True
 | s::l,v::r=>R w X E0 s v/\RL w X l r
 | _,_=>False
theorem RL.len {w X}:∀ {l:List SV}{r:List Value},RL w X l r->r.length=l.length
 | [],[],_=>rfl
 | _::_,_::_,h=>congrArg Nat.succ (RL.len h.2)
 | [],_::_,h=>h.elim
 | _::_,[],h=>h.elim
theorem RL.get {w X}:∀ {l:List SV}{r:List Value},RL w X l r->∀ i,i<l.length->R w X E0 (l.getD i .any) (r.getD i undef)
 | [],[],_,_,hi=>absurd hi (Nat.not_lt_zero _)
 | _::_,_::_,h,0,_=>h.1
 | _::_,_::_,h,i+1,hi=>RL.get h.2 i (Nat.lt_of_succ_lt_succ hi)
 | [],_::_,h,_,_=>h.elim
 | _::_,[],h,_,_=>h.elim
theorem R_agg {w X} {l:List SV}{r:List Value}{n:Nat}(h:RL w X l r) (hn:r.length=n) (ho:∀ v∈r,ab3 v):R w X E0 (.agg n (lst l)) (.agg r.toArray):=by
 have hl:=h.len
 subst hn
 refine .agg (by simp) (fun i hi=>?_) (fun i hi=>?_)
 ·rw [Array.getD_eq_getD_getElem?,List.getElem?_toArray,List.getElem?_eq_getElem hi]
  exact ho _ (List.getElem_mem hi)
 ·have:=h.get i (by omega)
  rw [Array.getD_eq_getD_getElem?,List.getElem?_toArray,<-List.getD_eq_getElem?_getD]
  exact this
theorem law_okG {Γ:World->Fr->Prop}{P:Program}{f:FuncId}{γ:Type}{dec:List SV->Option γ}{args:γ->List SV}{pre:γ->Prop}(h:a99 Γ P (aa5 f dec args pre fun _=> .bool true)) (g:γ) (hd:dec (args g)=some g) (hn:aC0 (args g)) (hp:pre g)
  {vals:List Value}{w:World}(hR:RL w (fun _=>False) (args g) vals) (hΓ:Γ w (Fr.of fun _=>False)) (hpu:(args g).all (ac3 6)=true:=by rfl):Calls P f vals.toArray w fun e w'=>e = .returned (.bool true)/\Below w.heap.size w w':=by
 have hrep:Rep w (Fr.of fun _=>False) [] E0 w:=⟨Bel.refl _ _,fun b hb=>hb.elim,fun k e he=>(nomatch he),fun k e he=>(nomatch he),fun k e he=>(nomatch he),fun k e b he=>(nomatch he),fun k k' e e' b he=>(nomatch he)⟩
 refine ((h w (Fr.of fun _=>False) hΓ).2.2 (args g) [] 0 ⟨aa5.leArgs (args g) (args g)/\Ask (pre g),.bool true,.keep⟩ ?_ ⟨aq3 hn,⟨hp⟩⟩ E0 w hrep (fun so hso=>by cases hso) vals.toArray ?_).mono ?_
 ·simp only [aa5]
  rw [hd,hpu]
 ·refine ⟨by rw [<-hR.len]; simp,fun i hi=>?_⟩
  have:=(hR.get i hi).mono (X':=Xo (Fr.of fun _=>False) E0 []) (fun _ _ _=>rfl) (fun b _ hb=>hb.elim id fun ⟨k,e,he,_⟩=>(nomatch he)) (Env.le_refl _)
  rw [Array.getD_eq_getD_getElem?,List.getElem?_toArray,<-List.getD_eq_getElem?_getD]
  exact this
 ·rintro e w' ⟨v,rfl,E',_,_,_,hr,hv,_⟩
  rw [aE3 hv]
  exact ⟨rfl,hr.below.all⟩
theorem law_ok {P:Program}{f:FuncId}{γ:Type}{dec:List SV->Option γ}{args:γ->List SV}{pre:γ->Prop}(h:aa2 P (aa5 f dec args pre fun _=> .bool true)) (g:γ) (hd:dec (args g)=some g) (hn:aC0 (args g)) (hp:pre g)
  {vals:List Value}{w:World}(hR:RL w (fun _=>False) (args g) vals) (hpu:(args g).all (ac3 6)=true:=by rfl):Calls P f vals.toArray w fun e w'=>e = .returned (.bool true)/\Below w.heap.size w w':=
 law_okG (Γ:=topG) h.g g hd hn hp hR trivial hpu
theorem wf_u8 {x:Int}(h:(Lit.int .u8 x).wf=true):0<=x/\x<=255:=by
 have:=h
 simp [Lit.wf,IntKind.min,IntKind.max,IntKind.signed,IntKind.bits] at this
 omega
def AllP (p:Int->Prop):List Int->Prop
 | []=>True
 | x::r=>p x/\AllP p r
theorem AllP.mem {p:Int->Prop}:∀ {l:List Int},AllP p l->∀ x∈l,p x
 | [],_,x,hx=>(List.not_mem_nil hx).elim
 | y::r,h,x,hx=>by
  rcases List.mem_cons.1 hx with rfl | hx
  ·exact h.1
  ·exact h.2.mem x hx
def aj0:SV->Nat
 | .sl n _ _=>n
 | .slN n _ _=>n
 | _=>0
def slCell (j:Nat):SV->Nat->Int
 | .sl _ _ g=>fun i=>intOf (g i j)
 | .slN _ _ g=>fun i=>intOf (g i j)
 | _=>fun _=>0
end Go.Proofs.YthappngbapbkfaaGreat.Sx
namespace Go.Proofs.YthappngbapbkfaaGreat.Num
open Go.RowKit
theorem aF0 (a b:Int) (hb:1<=b) (h:a.tmod b<0):a.tdiv b-1=a / b/\a<0:=by
 have h1:=Int.mul_tdiv_add_tmod a b
 have h2:=Int.lt_tmod_of_pos a (b:=b) (by omega)
 have ha:a<0:=by
  refine Int.not_le.1 fun hn=>?_
  have:=Int.tmod_nonneg b hn
  omega
 refine ⟨?_,ha⟩
 refine ((Int.ediv_emod_unique (by omega) (r:=a.tmod b+b) (q:=a.tdiv b-1) (a:=a) (b:=b)).2 ⟨?_,by omega,by omega⟩).1.symm
 rw [Int.mul_sub]; omega
theorem au5 (a b:Int) (hb:1<=b) (h:0<=a.tmod b):a.tdiv b=a / b:=by
 have h1:=Int.mul_tdiv_add_tmod a b
 have h2:=Int.tmod_lt_of_pos a (b:=b) (by omega)
 exact ((Int.ediv_emod_unique (by omega) (r:=a.tmod b) (q:=a.tdiv b) (a:=a) (b:=b)).2 ⟨by omega,by omega,by omega⟩).1.symm
theorem aF1 (a b:Int) (hb:1<=b):(0<=a->0<=a.tdiv b/\a.tdiv b<=a)/\(a<=0->a<=a.tdiv b/\a.tdiv b<=0):=by
 refine ⟨fun h=>?_,fun h=>?_⟩
 ·rw [Int.tdiv_eq_ediv_of_nonneg h]
  exact ⟨Int.ediv_nonneg h (by omega),Int.ediv_le_self _ h⟩
 ·have e:a.tdiv b = -((-a).tdiv b):=by rw [Int.neg_tdiv]; omega
  rw [e,Int.tdiv_eq_ediv_of_nonneg (by omega)]
  have h1:=Int.ediv_nonneg (a:= -a) (b:=b) (by omega) (by omega)
  have h2:=Int.ediv_le_self b (a:= -a) (by omega)
  omega
theorem quo (a b:Int) (w:World) (ha : -9223372036854775808<=a) (ha':a<=9223372036854775807) (hb:1<=b) (hb':b<=9223372036854775807) :
  Calls Tryz.prog 113 #[.int .i64 a,.int .i64 b] w fun e w'=>e = .returned (.int .i64 (a / b))/\w=w':=by
 have tb:=aF1 a b hb
 have hw:IntKind.i64.wrap (a.tdiv b)=a.tdiv b:=IntWalk.i64_quo' a b ⟨ha,ha',hb⟩
 by_cases h:a.tmod b<0
 ·obtain ⟨e1,e2⟩:=aF0 a b hb h
  have H:=Lib.hid e1; clear e1
  have tb2:=tb.2 (by omega)
  clear tb
  by_cases hx:a.tdiv b = -9223372036854775808
  ·exfalso
   have:=Int.mul_tdiv_add_tmod a b
   rw [hx] at this
   have:b*9223372036854775808>=1*9223372036854775808:=Int.mul_le_mul_of_nonneg_right hb (by omega)
   omega
  ·have hx' : -9223372036854775807<=a.tdiv b:=by omega
   clear hx
   go_enter Tryz.func113,Tryz.ntmps113
   go_wp2
   go_ret
   exact ⟨ag5 H.out,rfl⟩
 ·have e1:=au5 a b hb (by omega)
  have H:=Lib.hid e1; clear e1 tb
  go_enter Tryz.func113,Tryz.ntmps113
  go_wp2
  go_ret
  exact ⟨ag5 H.out,rfl⟩
def nr (a b:Int):Int:=if b-(a-a / b*b)<=a-a / b*b then a / b+1 else a / b
theorem aD5 (a b:Int) (hb:1<=b):a / b*b<=a/\a<a / b*b+b:=by
 have q1:a / b*b<=a:=by have:=Int.ediv_mul_le a (b:=b) (by omega); omega
 have q2:a<a / b*b+b:=by have:=Int.lt_ediv_add_one_mul_self a (b:=b) (by omega); rw [Int.add_mul] at this; omega
 exact ⟨q1,q2⟩
theorem aG9 (a b:Int) (hb:1<=b):2*(nr a b*b)<=2*a+b/\2*a+b<2*(nr a b*b)+2*b:=by
 have:=aD5 a b hb
 unfold nr
 split
 ·rw [Int.add_mul]; omega
 ·omega
theorem az7 (a b:Int) (hb:1<=b):(0<=a->0<=a / b/\a / b<=a)/\(a<0->a<=a / b/\a / b<0):=by
 refine ⟨fun h=>⟨Int.ediv_nonneg h (by omega),Int.ediv_le_self _ h⟩,fun h=>⟨?_,Int.ediv_neg_of_neg_of_pos h (by omega)⟩⟩
 have:=aD5 a b hb
 have hn:=Int.ediv_neg_of_neg_of_pos h (b:=b) (by omega)
 refine Int.not_lt.1 fun hc=>?_
 have h5:(a / b+1)*b<=(a / b+1)*1:=Int.mul_le_mul_of_nonpos_left (by omega) hb
 have h6:(a / b+1)*b=a / b*b+b:=by rw [Int.add_mul,Int.one_mul]
 omega
theorem aR0 {a b:Int}(h:b-(a-a / b*b)<=a-a / b*b):a / b+1=nr a b:=by unfold nr; rw [if_pos h]
theorem aQ9 {a b:Int}(h:¬ b-(a-a / b*b)<=a-a / b*b):a / b=nr a b:=by unfold nr; rw [if_neg h]
theorem near (a b:Int) (w:World) (ha : -4611686018427387904<=a) (ha':a<=4611686018427387904) (hb:1<=b) (hb':b<=4611686018427387904) :
  Calls Tryz.prog 89 #[.int .i64 a,.int .i64 b] w fun e w'=>e = .returned (.int .i64 (nr a b))/\w=w':=by
 obtain ⟨q1,q2⟩:=aD5 a b hb
 have q3:=az7 a b hb
 have q4 : -4611686018427387904<=a / b/\a / b<=4611686018427387904:=by omega
 obtain ⟨q4,q5⟩:=q4
 clear q3
 by_cases h:b-(a-a / b*b)<=a-a / b*b
 ·have H:=Lib.hid (aR0 h)
  go_enter Tryz.func89,Tryz.ntmps89
  go_wp2_with fail
  refine (quo a b _ (by omega) (by omega) hb (by omega)).mono ?_
  rintro e w' ⟨rfl,rfl⟩
  go_wp2
  go_ret
  exact ⟨ag5 H.out,rfl⟩
 ·have H:=Lib.hid (aQ9 h)
  go_enter Tryz.func89,Tryz.ntmps89
  go_wp2_with fail
  refine (quo a b _ (by omega) (by omega) hb (by omega)).mono ?_
  rintro e w' ⟨rfl,rfl⟩
  go_wp2
  go_ret
  exact ⟨ag5 H.out,rfl⟩
def ab2 (a b:Int):Int:=nr (a*b) 255
theorem aG6 {a b m n:Int}(h1:0<=a) (h2:a<=m) (h3:0<=b) (h4:b<=n):0<=a*b/\a*b<=m*n:=
 ⟨Int.mul_nonneg h1 h3,Int.mul_le_mul h2 h4 h3 (by omega)⟩
theorem a30 {p:Int}(h0:0<=p) (h1:p<=65025):0<=nr p 255/\nr p 255<=255:=by
 have:=aG9 p 255 (by omega); omega
theorem ad7 {a b:Int}(h1:0<=a) (h2:a<=255) (h3:0<=b) (h4:b<=255):0<=ab2 a b/\ab2 a b<=255:=by
 obtain ⟨p1,p2⟩:=aG6 h1 h2 h3 h4
 exact a30 p1 p2
theorem mul255_any (a b:Int) (w:World) (h1:0<=a) (h2:a<=255) (h3:0<=b) (h4:b<=255) :
  Calls Tryz.prog 64 #[.int .u8 a,.int .u8 b] w fun e w'=>e = .returned (.int .u8 (ab2 a b))/\w=w':=by
 obtain ⟨p1,p2⟩:=aG6 h1 h2 h3 h4
 obtain ⟨r1,r2⟩:=ad7 h1 h2 h3 h4
 unfold ab2 at r1 r2 ⊢
 go_enter Tryz.func64,Tryz.ntmps64
 go_wp2_with fail
 refine (near _ 255 _ (by omega) (by omega) (by omega) (by omega)).mono ?_
 rintro e w' ⟨rfl,rfl⟩
 go_wp2
 go_ret
 exact ⟨rfl,rfl⟩
def cutI (x low high:Int):Int:=low+x % (high-low+1)
theorem ao8 (x low high:Int) (h:low<=high):low<=cutI x low high/\cutI x low high<=high:=by
 unfold cutI
 have h1:=Int.emod_nonneg x (b:=high-low+1) (by omega)
 have h2:=Int.emod_lt_of_pos x (b:=high-low+1) (by omega)
 omega
theorem aZ3 (x n:Int) (hn:1<=n):x.tmod n % n=x % n/\ -n<x.tmod n/\x.tmod n<n:=by
 have h1:=Int.lt_tmod_of_pos x (b:=n) (by omega)
 have h2:=Int.tmod_lt_of_pos x (b:=n) (by omega)
 refine ⟨?_,h1,h2⟩
 have h3:=Int.mul_tdiv_add_tmod x n
 rw [<-Int.mul_add_emod_self_left n (x.tdiv n) (x.tmod n),h3]
theorem cut (x low high:Int) (w:World) (_ : -9223372036854775808<=x) (_:x<=9223372036854775807) (h1 : -2305843009213693952<=low) (h2:low<=high) (h3:high<=4611686018427387903) (h4:high-low<=4611686018427387903) :
  Calls Tryz.prog 9 #[.int .i64 x,.int .i64 low,.int .i64 high] w fun e w'=>e = .returned (.int .i64 (cutI x low high))/\w=w':=by
 obtain ⟨e1,e2,e3⟩:=aZ3 x (high-low+1) (by omega)
 have h5:=Int.emod_nonneg (x.tmod (high-low+1)) (b:=high-low+1) (by omega)
 have h6:=Int.emod_lt_of_pos (x.tmod (high-low+1)) (b:=high-low+1) (by omega)
 have H:Hid (low+x.tmod (high-low+1) % (high-low+1)=cutI x low high):=by unfold cutI; rw [e1]; rfl
 clear e1
 go_enter Tryz.func9,Tryz.ntmps9
 go_wp2
 go_ret
 exact ⟨ag5 H.out,rfl⟩
end Go.Proofs.YthappngbapbkfaaGreat.Num
set_option linter.unusedSimpArgs false
set_option linter.unusedVariables false
namespace Go.Proofs.YthappngbapbkfaaGreat.Aff
open Go.RowKit Sx Num
set_option maxRecDepth 100000
theorem mixed:Tryz.prog.follows .mixedOrders=true:=by kernel_rfl
structure Mat where
 a:Int
 b:Int
 c:Int
 d:Int
 e:Int
 f:Int
def matL (m:Mat):List SV:=[.int .i64 m.a,.int .i64 m.b,.int .i64 m.c,.int .i64 m.d,.int .i64 m.e,.int .i64 m.f]
def matS (m:Mat):SV:= .agg 6 (lst (matL m))
def matD (g:Nat->SV):Mat:=⟨Sx.intOf (g 0),Sx.intOf (g 1),Sx.intOf (g 2),Sx.intOf (g 3),Sx.intOf (g 4),Sx.intOf (g 5)⟩
def inR (x m:Int):Bool:=decide (-m<=x)&&decide (x<=m)
def Mat.ok (m:Mat):Bool:=inR m.a 1048576&&(inR m.b 1048576&&(inR m.c 1048576&&(inR m.d 1048576&&(inR m.e 268435456&&inR m.f 268435456))))
def Mat.chk (m:Mat):Int:=if m.ok then 0 else 3
def bb2:FSpec:=aa5 124 (γ:=Int×Int) (fun | [.int _ x,.int _ m]=>some (x,m) | _=>none) (fun g=>[.int .i64 g.1,.int .i64 g.2]) (fun g=>0<=g.2/\g.2<=4611686018427387904) (fun g=> .bool (inR g.1 g.2))
theorem ok_within:aa2 Tryz.prog bb2:=by
 refine aa1 (specs:=[]) (aa9 trivial) (eqs:=[]) (fun _ _ h=>(List.not_mem_nil h).elim) mixed Tryz.func124 rfl (by kernel_rfl) (fun _ _=>by kernel_rfl) (fun _=>A0) (fun g=>Nat.le_of_ble_eq_true (by kernel_rfl)) ?_
 rintro ⟨x,m⟩ ⟨h1,h2⟩
 simp only at h1 h2
 refine ab5 (B:=True/\True/\True/\Sx.Ask ((-9223372036854775808:Int)<=(0:Int)-m/\(0:Int)-m<=(9223372036854775807:Int))/\True/\True/\Sx.Br (decide ((0:Int)-m<=x)) (True/\True/\True/\True/\True/\True/\Sx.Ask (decide (x<=m)=inR x m)) (True/\True/\True/\Sx.Ask (false=inR x m))) (by kernel_rfl) ?_
 simp +contextual [aa4,aa8,inR]
 omega
def spCheck:FSpec:=aa5 95 (γ:=Mat) (fun | [.agg _ g]=>some (matD g) | _=>none) (fun m=>[matS m]) (fun _=>True) (fun m=> .int .i64 m.chk)
theorem ok_check:aa2 Tryz.prog spCheck:=by
 refine aa1 (specs:=[bb2]) (aa9 (⟨ok_within,trivial⟩)) (eqs:=[]) (fun _ _ h=>(List.not_mem_nil h).elim) mixed Tryz.func95 rfl (by kernel_rfl) (fun _ _=>by kernel_rfl) (fun _=>⟨[(2,.rounds 5)],[]⟩) (fun g=>Nat.le_of_ble_eq_true (by kernel_rfl)) ?_
 intro m _
 refine ab5 (B:=let T2:=fun p:Prop=>True/\True/\p;let K:=Sx.Br;let A:=Sx.Ask;let z10:=(4611686018427387904:Int);let z9:=(9223372036854775807:Int);let z8:=(-9223372036854775808:Int);let z7:=(1048576:Int);let z6:=(0:Int);let z5:=(268435456:Int);let z4:=(1:Int);let z1:=(z6<=z7/\z7<=z10);let z0:=(IntKind.i64=IntKind.i64);let q0:=fun p:Int=>A z0/\A (p=p);let z3:=(q0 z7);let z2:=(T2 (A z0/\A ((3:Int)=m.chk)));T2 (T2 (T2 (T2 (T2 (T2 (True/\A (z6<=z6/\z6 < ↑(4:Nat))/\T2 ((((q0 m.a)/\z3/\True)/\A z1)/\True/\K (!inR m.a z7) z2 (A (z8<=z6+z4/\z6+z4<=z9)/\T2 (A (z6<=z6+z4/\z6+z4 < ↑(4:Nat))/\T2 ((((q0 m.b)/\z3/\True)/\A z1)/\True/\K (!inR m.b z7) z2 (A (z8<=z6+z4+z4/\z6+z4+z4<=z9)/\T2 (A (z6<=z6+z4+z4/\z6+z4+z4 < ↑(4:Nat))/\T2 ((((q0 m.c)/\z3/\True)/\A z1)/\True/\K (!inR m.c z7) z2 (A (z8<=z6+z4+z4+z4/\z6+z4+z4+z4<=z9)/\T2 (A (z6<=z6+z4+z4+z4/\z6+z4+z4+z4 < ↑(4:Nat))/\T2 ((((q0 m.d)/\z3/\True)/\A z1)/\True/\K (!inR m.d z7) z2 (A (z8<=z6+z4+z4+z4+z4/\z6+z4+z4+z4+z4<=z9)/\T2 (T2 ((((q0 m.e)/\(q0 z5)/\True)/\A (z6<=z5/\z5<=z10))/\T2 (K (!inR m.e z5) (T2 (True/\A z0/\A ((3:Int)=m.chk))) (T2 ((((q0 m.f)/\(q0 z5)/\True)/\A (z6<=z5/\z5<=z10))/\T2 (K (!inR m.f z5) z2 (T2 (A z0/\A (z6=m.chk))))))))))))))))))))))))))) (by kernel_rfl) ?_
 simp +contextual [aa4,aa8,Mat.chk,Mat.ok]
def Mat.imgX (m:Mat) (x y:Int):Int:=nr (m.a*x+m.c*y+m.e) 4096
def Mat.imgY (m:Mat) (x y:Int):Int:=nr (m.b*x+m.d*y+m.f) 4096
def Mat.appE (m:Mat) (x y:Int):Int:=
 if m.ok=false then 3 else if (inR x 32767&&inR y 32767)=false then 3 else if (inR (m.imgX x y) 32767&&inR (m.imgY x y) 32767)=false then 10 else 0
def spQuo:FSpec:=aa5 113 (γ:=Int×Int) (fun | [.int _ x,.int _ m]=>some (x,m) | _=>none) (fun g=>[.int .i64 g.1,.int .i64 g.2]) (fun g=>(-4611686018427387904<=g.1/\g.1<=4611686018427387904)/\1<=g.2/\g.2<=9223372036854775807) (fun g=> .int .i64 (g.1 / g.2))
theorem ok_quo:aa2 Tryz.prog spQuo:=by
 refine aa1 (specs:=[]) (aa9 trivial) (eqs:=[]) (fun _ _ h=>(List.not_mem_nil h).elim) mixed Tryz.func113 rfl (by kernel_rfl) (fun _ _=>by kernel_rfl) (fun _=>A0) (fun g=>Nat.le_of_ble_eq_true (by kernel_rfl)) ?_
 rintro ⟨a,b⟩ ⟨⟨h1,h2⟩,h3,h4⟩
 simp only at h1 h2 h3 h4
 have t1:=aF1 a b h3
 have t2:=aF0 a b h3
 have t3:=au5 a b h3
 have t4:=az7 a b h3
 refine ab5 (B:=let K:=IntKind.i64;let A:=Sx.Ask;True/\True/\True/\A (b≠(0:Int)/\(-9223372036854775808:Int)<=a.tdiv b/\a.tdiv b<=(9223372036854775807:Int))/\True/\True/\True/\A (b≠(0:Int))/\True/\Sx.Br (decide (a.tmod b<(0:Int))) (True/\A ((-9223372036854775808:Int)<=a.tdiv b-(1:Int)/\a.tdiv b-(1:Int)<=(9223372036854775807:Int))/\True/\True/\True/\True/\A (K=K)/\A (a.tdiv b-(1:Int)=a / b)) (True/\True/\True/\A (K=K)/\A (a.tdiv b=a / b))) (by kernel_rfl) ?_
 simp only [aa4,aa8,true_and,and_true,decide_eq_true_eq,decide_eq_false_iff_not]
 refine ⟨by omega,by omega,fun h=>⟨by omega,(t2 h).1⟩,fun h=>t3 (by omega)⟩
def au6:FSpec:=aa5 89 (γ:=Int×Int) (fun | [.int _ x,.int _ m]=>some (x,m) | _=>none) (fun g=>[.int .i64 g.1,.int .i64 g.2]) (fun g=>(-4611686018427387904<=g.1/\g.1<=4611686018427387904)/\1<=g.2/\g.2<=4611686018427387904) (fun g=> .int .i64 (nr g.1 g.2))
theorem as4:aa2 Tryz.prog au6:=by
 refine aa1 (specs:=[spQuo]) (aa9 (⟨ok_quo,trivial⟩)) (eqs:=[]) (fun _ _ h=>(List.not_mem_nil h).elim) mixed Tryz.func89 rfl (by kernel_rfl) (fun _ _=>by kernel_rfl) (fun _=>A0) (fun g=>Nat.le_of_ble_eq_true (by kernel_rfl)) ?_
 rintro ⟨a,b⟩ ⟨⟨h1,h2⟩,h3,h4⟩
 simp only at h1 h2 h3 h4
 have q1:=aD5 a b h3
 have q2:=az7 a b h3
 refine ab5 (B:=let A:=Sx.Ask;let z2:=(IntKind.i64=IntKind.i64);let z1:=(-9223372036854775808:Int);let z0:=(9223372036854775807:Int);True/\True/\True/\(((A z2/\A (a=a))/\(A z2/\A (b=b))/\True)/\A (((-4611686018427387904:Int)<=a/\a<=(4611686018427387904:Int))/\(1:Int)<=b/\b<=z0))/\True/\True/\True/\True/\A (z1<=a / b*b/\a / b*b<=z0)/\A (z1<=a-a / b*b/\a-a / b*b<=z0)/\True/\True/\True/\True/\A (z1<=b-(a-a / b*b)/\b-(a-a / b*b)<=z0)/\True/\Sx.Br (decide (b-(a-a / b*b)<=a-a / b*b)) (True/\A (z1<=a / b+(1:Int)/\a / b+(1:Int)<=z0)/\True/\True/\True/\True/\A z2/\A (a / b+(1:Int)=nr a b)) (True/\True/\True/\A z2/\A (a / b=nr a b))) (by kernel_rfl) ?_
 simp only [aa4,aa8,true_and,and_true,decide_eq_true_eq,decide_eq_false_iff_not]
 generalize hq:a / b=q at *
 generalize hp:q*b=p at *
 refine ⟨by omega,by omega,by omega,by omega,fun h=>⟨by omega,?_⟩,fun h=>?_⟩
 ·subst hq; subst hp; first | exact aR0 (of_decide_eq_true h) | exact aR0 (by simpa using h)
 ·subst hq; subst hp; first | exact aQ9 (of_decide_eq_false h) | exact aQ9 (by simpa using h)
theorem aH2 {a x A X:Int}(h : -A<=a/\a<=A) (k : -X<=x/\x<=X) : -(A*X)<=a*x/\a*x<=A*X:=by
 have hA:0<=A:=by omega
 have hX:0<=X:=by omega
 have e:(a*x).natAbs<=(A*X).natAbs:=by
  rw [Int.natAbs_mul,Int.natAbs_mul]
  exact Nat.mul_le_mul (by omega) (by omega)
 have p:0<=A*X:=Int.mul_nonneg hA hX
 omega
theorem chk_eq (m:Mat) (h:m.ok=false):m.chk=3:=by simp [Mat.chk,h]
theorem a96 (m:Mat) (h:m.ok=true):m.chk=0:=by simp [Mat.chk,h]
theorem Mat.ok_in {m:Mat}(h:m.ok=true):(-1048576<=m.a/\m.a<=1048576)/\(-1048576<=m.b/\m.b<=1048576)/\(-1048576<=m.c/\m.c<=1048576)/\(-1048576<=m.d/\m.d<=1048576)/\(-268435456<=m.e/\m.e<=268435456)/\(-268435456<=m.f/\m.f<=268435456):=by
 simpa [Mat.ok,inR] using h
def Mat.out (m n:Mat):Mat:=⟨nr (n.a*m.a+n.c*m.b) 4096,nr (n.b*m.a+n.d*m.b) 4096,nr (n.a*m.c+n.c*m.d) 4096,nr (n.b*m.c+n.d*m.d) 4096,nr (n.a*m.e+n.c*m.f) 4096+n.e,nr (n.b*m.e+n.d*m.f) 4096+n.f⟩
def spOver:FSpec:=aa5 96 (γ:=Int×Int×Int) (fun | [.int _ x,.ref _ s,.ref _ d]=>some (x,Sx.intOf (s 0),Sx.intOf (d 0)) | _=>none) (fun g=>[.int .i64 g.1,.ref 1 (lst [.int .i64 g.2.1]),.ref 1 (lst [.int .i64 g.2.2])])
 (fun g=>(-4611686018427387904<=g.2.1*g.1/\g.2.1*g.1<=4611686018427387904)/\1<=g.2.2/\g.2.2<=4611686018427387904) (fun g=> .int .i64 (nr (g.2.1*g.1) g.2.2))
theorem ok_over:aa2 Tryz.prog spOver:=by
 refine aa1 (specs:=[au6]) (aa9 (⟨as4,trivial⟩)) (eqs:=[]) (fun _ _ h=>(List.not_mem_nil h).elim) mixed Tryz.func96 rfl (by kernel_rfl) (fun _ _=>by kernel_rfl) (fun _=>A0) (fun g=>Nat.le_of_ble_eq_true (by kernel_rfl)) ?_
 rintro ⟨x,s,d⟩ ⟨⟨h1,h2⟩,h3,h4⟩
 simp only at h1 h2 h3 h4
 refine ab5 (B:=let A:=Sx.Ask;let z0:=(IntKind.i64=IntKind.i64);let q0:=fun p:Int=>A z0/\A (p=p);True/\True/\True/\A ((-9223372036854775808:Int)<=s*x/\s*x<=(9223372036854775807:Int))/\True/\(((q0 (s*x))/\(q0 d)/\True)/\A (((-4611686018427387904:Int)<=s*x/\s*x<=(4611686018427387904:Int))/\(1:Int)<=d/\d<=(4611686018427387904:Int)))/\True/\True/\q0 (nr (s*x) d)) (by kernel_rfl) ?_
 simp [aa4,aa8]
 omega
def spCut:FSpec:=aa5 9 (γ:=Int×Int×Int) (fun | [.int _ x,.int _ l,.int _ h]=>some (x,l,h) | _=>none) (fun g=>[.int .i64 g.1,.int .i64 g.2.1,.int .i64 g.2.2])
 (fun g=>(-2305843009213693952<=g.2.1/\g.2.1<=g.2.2)/\g.2.2<=4611686018427387903/\g.2.2-g.2.1<=4611686018427387903) (fun g=> .int .i64 (cutI g.1 g.2.1 g.2.2))
theorem ok_cut:aa2 Tryz.prog spCut:=by
 refine aa1 (specs:=[]) (aa9 trivial) (eqs:=[]) (fun _ _ h=>(List.not_mem_nil h).elim) mixed Tryz.func9 rfl (by kernel_rfl) (fun _ _=>by kernel_rfl) (fun _=>A0) (fun g=>Nat.le_of_ble_eq_true (by kernel_rfl)) ?_
 rintro ⟨x,low,high⟩ ⟨⟨h1,h2⟩,h3,h4⟩
 simp only at h1 h2 h3 h4
 obtain ⟨e1,e2,e3⟩:=aZ3 x (high-low+1) (by omega)
 have h5:=Int.emod_nonneg (x.tmod (high-low+1)) (b:=high-low+1) (by omega)
 have h6:=Int.emod_lt_of_pos (x.tmod (high-low+1)) (b:=high-low+1) (by omega)
 have e4:(x.tmod (high-low+1)+(high-low+1)).tmod (high-low+1)=x % (high-low+1):=by
  rw [Int.tmod_eq_emod_of_nonneg (by omega),Int.add_emod_right,e1]
 refine ab5 (B:=let A:=Sx.Ask;let z3:=(high-low+(1:Int)≠(0:Int));let z2:=(9223372036854775807:Int);let z1:=(-9223372036854775808:Int);let z0:=(high-low+(1:Int));True/\True/\True/\A (z1<=high-low/\high-low<=z2)/\A (z1<=high-low+(1:Int)/\high-low+(1:Int)<=z2)/\True/\True/\True/\True/\A z3/\True/\A (z1<=x.tmod z0+z0/\x.tmod z0+z0<=z2)/\True/\A z3/\A (z1<=low+(x.tmod z0+z0).tmod z0/\low+(x.tmod z0+z0).tmod z0<=z2)/\True/\True/\A (IntKind.i64=IntKind.i64)/\A (low+(x.tmod z0+z0).tmod z0=cutI x low high)) (by kernel_rfl) ?_
 simp only [e4]
 rw [e1] at h5 h6
 simp [aa4,aa8,cutI]
 omega
def sizeI (x:Int):Int:=if x<0-x then 0-x else x
abbrev eqP:List (TypeId×List CK):=[(39,[.int,.int]),(44,[.int,.int,.int,.int,.int,.int])]
end Go.Proofs.YthappngbapbkfaaGreat.Aff
set_option linter.unusedSimpArgs false
set_option linter.unusedVariables false
namespace Go.Proofs.YthappngbapbkfaaGreat.Aft
open Go.RowKit Sx Num Aff
set_option maxRecDepth 100000
end Go.Proofs.YthappngbapbkfaaGreat.Aft
set_option linter.unusedSimpArgs false
set_option linter.unusedVariables false
namespace Go.Proofs.YthappngbapbkfaaGreat.Afi
open Go.RowKit Sx Num Aff Aft
set_option maxRecDepth 100000
def det (m:Mat):Int:=m.a*m.d-m.b*m.c
def sg (d:Int):Int:=if d<0 then -1 else 1
def ab (d:Int):Int:=if d<0 then 0-d else d
def over (m:Mat) (x:Int):Int:=nr (sg (det m)*x) (ab (det m))
def ax6 (m:Mat):Mat:=⟨over m (16777216*m.d),over m (-16777216*m.b),over m (-16777216*m.c),over m (16777216*m.a),over m (4096*(m.c*m.f-m.d*m.e)),over m (4096*(m.b*m.e-m.a*m.f))⟩
def invE (m:Mat):Int:=if m.ok=false then 3 else if det m=0 then 8 else if (ax6 m).ok=false then 10 else 0
def invM (m:Mat):Mat:=if invE m=0 then ax6 m else ⟨0,0,0,0,0,0⟩
def aQ2:FSpec:=aa5 76 (γ:=Mat) (fun | [.agg _ g]=>some (matD g) | _=>none) (fun g=>[matS g]) (fun _=>True)
 (fun g=> .tup 2 (lst [matS (invM g),.int .i64 (invE g)]))
theorem aW6:aa2 Tryz.prog aQ2:=by
 refine aa1 (specs:=[spCheck,spOver]) (aa9 (⟨ok_check,ok_over,trivial⟩)) (eqs:=[]) (fun _ _ h=>(List.not_mem_nil h).elim) mixed Tryz.func76 rfl (by kernel_rfl) (fun _ _=>by kernel_rfl) (fun _=>⟨[],[(10,[.tmp 7])]⟩) (fun g=>Nat.le_of_ble_eq_true (by kernel_rfl)) ?_
 intro m _
 refine ab5 (B:=let T3:=fun p:Prop=>True/\True/\True/\p;let T4:=fun p:Prop=>True/\True/\True/\True/\p;let T5:=fun p:Prop=>True/\True/\True/\True/\True/\p;let J:=IntKind.i64;let K:=Sx.Br;let A:=Sx.Ask;T4 (((((((((True/\A (J=J)/\A (m.a=m.a))/\A (J=J)/\A (m.b=m.b))/\A (J=J)/\A (m.c=m.c))/\A (J=J)/\A (m.d=m.d))/\A (J=J)/\A (m.e=m.e))/\A (J=J)/\A (m.f=m.f))/\True)/\A True)/\T3 (K (decide (m.chk≠(0:Int))) (T4 ((True/\True)/\(True/\(((((True/\A (J=J)/\A ((0:Int)=(invM m).a))/\A (J=J)/\A ((0:Int)=(invM m).b))/\A (J=J)/\A ((0:Int)=(invM m).c))/\A (J=J)/\A ((0:Int)=(invM m).d))/\A (J=J)/\A ((0:Int)=(invM m).e))/\A (J=J)/\A ((0:Int)=(invM m).f))/\A (J=J)/\A (m.chk=invE m))) (T4 (A ((-9223372036854775808:Int)<=m.a*m.d/\m.a*m.d<=(9223372036854775807:Int))/\T4 (A ((-9223372036854775808:Int)<=m.b*m.c/\m.b*m.c<=(9223372036854775807:Int))/\A ((-9223372036854775808:Int)<=m.a*m.d-m.b*m.c/\m.a*m.d-m.b*m.c<=(9223372036854775807:Int))/\T5 (True/\K (decide (m.a*m.d-m.b*m.c=(0:Int))) (T3 ((True/\True)/\(True/\(((((True/\A (J=J)/\A ((0:Int)=(invM m).a))/\A (J=J)/\A ((0:Int)=(invM m).b))/\A (J=J)/\A ((0:Int)=(invM m).c))/\A (J=J)/\A ((0:Int)=(invM m).d))/\A (J=J)/\A ((0:Int)=(invM m).e))/\A (J=J)/\A ((0:Int)=(invM m).f))/\A (J=J)/\A ((8:Int)=invE m))) (True/\True/\K (decide (m.a*m.d-m.b*m.c<(0:Int))) (True/\A ((-9223372036854775808:Int)<=(0:Int)-(m.a*m.d-m.b*m.c)/\(0:Int)-(m.a*m.d-m.b*m.c)<=(9223372036854775807:Int))/\T5 (True/\True/\A ((-9223372036854775808:Int)<=(16777216:Int)*m.d/\(16777216:Int)*m.d<=(9223372036854775807:Int))/\(((A (J=J)/\A ((16777216:Int)*m.d=(16777216:Int)*m.d))/\(True/\A (J=J)/\A ((-1:Int)=(-1:Int)))/\(True/\A (J=J)/\A ((0:Int)-(m.a*m.d-m.b*m.c)=(0:Int)-(m.a*m.d-m.b*m.c)))/\True)/\A (((-4611686018427387904:Int)<=(-1:Int)*((16777216:Int)*m.d)/\(-1:Int)*((16777216:Int)*m.d)<=(4611686018427387904:Int))/\(1:Int)<=(0:Int)-(m.a*m.d-m.b*m.c)/\(0:Int)-(m.a*m.d-m.b*m.c)<=(4611686018427387904:Int)))/\T3 (A ((-9223372036854775808:Int)<=(-16777216:Int)*m.b/\(-16777216:Int)*m.b<=(9223372036854775807:Int))/\(((A (J=J)/\A ((-16777216:Int)*m.b=(-16777216:Int)*m.b))/\(True/\A (J=J)/\A ((-1:Int)=(-1:Int)))/\(True/\A (J=J)/\A ((0:Int)-(m.a*m.d-m.b*m.c)=(0:Int)-(m.a*m.d-m.b*m.c)))/\True)/\A (((-4611686018427387904:Int)<=(-1:Int)*((-16777216:Int)*m.b)/\(-1:Int)*((-16777216:Int)*m.b)<=(4611686018427387904:Int))/\(1:Int)<=(0:Int)-(m.a*m.d-m.b*m.c)/\(0:Int)-(m.a*m.d-m.b*m.c)<=(4611686018427387904:Int)))/\T3 (A ((-9223372036854775808:Int)<=(-16777216:Int)*m.c/\(-16777216:Int)*m.c<=(9223372036854775807:Int))/\(((A (J=J)/\A ((-16777216:Int)*m.c=(-16777216:Int)*m.c))/\(True/\A (J=J)/\A ((-1:Int)=(-1:Int)))/\(True/\A (J=J)/\A ((0:Int)-(m.a*m.d-m.b*m.c)=(0:Int)-(m.a*m.d-m.b*m.c)))/\True)/\A (((-4611686018427387904:Int)<=(-1:Int)*((-16777216:Int)*m.c)/\(-1:Int)*((-16777216:Int)*m.c)<=(4611686018427387904:Int))/\(1:Int)<=(0:Int)-(m.a*m.d-m.b*m.c)/\(0:Int)-(m.a*m.d-m.b*m.c)<=(4611686018427387904:Int)))/\T3 (A ((-9223372036854775808:Int)<=(16777216:Int)*m.a/\(16777216:Int)*m.a<=(9223372036854775807:Int))/\(((A (J=J)/\A ((16777216:Int)*m.a=(16777216:Int)*m.a))/\(True/\A (J=J)/\A ((-1:Int)=(-1:Int)))/\(True/\A (J=J)/\A ((0:Int)-(m.a*m.d-m.b*m.c)=(0:Int)-(m.a*m.d-m.b*m.c)))/\True)/\A (((-4611686018427387904:Int)<=(-1:Int)*((16777216:Int)*m.a)/\(-1:Int)*((16777216:Int)*m.a)<=(4611686018427387904:Int))/\(1:Int)<=(0:Int)-(m.a*m.d-m.b*m.c)/\(0:Int)-(m.a*m.d-m.b*m.c)<=(4611686018427387904:Int)))/\T5 (A ((-9223372036854775808:Int)<=m.c*m.f/\m.c*m.f<=(9223372036854775807:Int))/\T4 (A ((-9223372036854775808:Int)<=m.d*m.e/\m.d*m.e<=(9223372036854775807:Int))/\A ((-9223372036854775808:Int)<=m.c*m.f-m.d*m.e/\m.c*m.f-m.d*m.e<=(9223372036854775807:Int))/\A ((-9223372036854775808:Int)<=(4096:Int)*(m.c*m.f-m.d*m.e)/\(4096:Int)*(m.c*m.f-m.d*m.e)<=(9223372036854775807:Int))/\(((A (J=J)/\A ((4096:Int)*(m.c*m.f-m.d*m.e)=(4096:Int)*(m.c*m.f-m.d*m.e)))/\(True/\A (J=J)/\A ((-1:Int)=(-1:Int)))/\(True/\A (J=J)/\A ((0:Int)-(m.a*m.d-m.b*m.c)=(0:Int)-(m.a*m.d-m.b*m.c)))/\True)/\A (((-4611686018427387904:Int)<=(-1:Int)*((4096:Int)*(m.c*m.f-m.d*m.e))/\(-1:Int)*((4096:Int)*(m.c*m.f-m.d*m.e))<=(4611686018427387904:Int))/\(1:Int)<=(0:Int)-(m.a*m.d-m.b*m.c)/\(0:Int)-(m.a*m.d-m.b*m.c)<=(4611686018427387904:Int)))/\T5 (A ((-9223372036854775808:Int)<=m.b*m.e/\m.b*m.e<=(9223372036854775807:Int))/\T4 (A ((-9223372036854775808:Int)<=m.a*m.f/\m.a*m.f<=(9223372036854775807:Int))/\A ((-9223372036854775808:Int)<=m.b*m.e-m.a*m.f/\m.b*m.e-m.a*m.f<=(9223372036854775807:Int))/\A ((-9223372036854775808:Int)<=(4096:Int)*(m.b*m.e-m.a*m.f)/\(4096:Int)*(m.b*m.e-m.a*m.f)<=(9223372036854775807:Int))/\(((A (J=J)/\A ((4096:Int)*(m.b*m.e-m.a*m.f)=(4096:Int)*(m.b*m.e-m.a*m.f)))/\(True/\A (J=J)/\A ((-1:Int)=(-1:Int)))/\(True/\A (J=J)/\A ((0:Int)-(m.a*m.d-m.b*m.c)=(0:Int)-(m.a*m.d-m.b*m.c)))/\True)/\A (((-4611686018427387904:Int)<=(-1:Int)*((4096:Int)*(m.b*m.e-m.a*m.f))/\(-1:Int)*((4096:Int)*(m.b*m.e-m.a*m.f))<=(4611686018427387904:Int))/\(1:Int)<=(0:Int)-(m.a*m.d-m.b*m.c)/\(0:Int)-(m.a*m.d-m.b*m.c)<=(4611686018427387904:Int)))/\T4 (((((((((True/\A (J=J)/\A (nr ((-1:Int)*((16777216:Int)*m.d)) ((0:Int)-(m.a*m.d-m.b*m.c))=nr ((-1:Int)*((16777216:Int)*m.d)) ((0:Int)-(m.a*m.d-m.b*m.c))))/\A (J=J)/\A (nr ((-1:Int)*((-16777216:Int)*m.b)) ((0:Int)-(m.a*m.d-m.b*m.c))=nr ((-1:Int)*((-16777216:Int)*m.b)) ((0:Int)-(m.a*m.d-m.b*m.c))))/\A (J=J)/\A (nr ((-1:Int)*((-16777216:Int)*m.c)) ((0:Int)-(m.a*m.d-m.b*m.c))=nr ((-1:Int)*((-16777216:Int)*m.c)) ((0:Int)-(m.a*m.d-m.b*m.c))))/\A (J=J)/\A (nr ((-1:Int)*((16777216:Int)*m.a)) ((0:Int)-(m.a*m.d-m.b*m.c))=nr ((-1:Int)*((16777216:Int)*m.a)) ((0:Int)-(m.a*m.d-m.b*m.c))))/\A (J=J)/\A (nr ((-1:Int)*((4096:Int)*(m.c*m.f-m.d*m.e))) ((0:Int)-(m.a*m.d-m.b*m.c))=nr ((-1:Int)*((4096:Int)*(m.c*m.f-m.d*m.e))) ((0:Int)-(m.a*m.d-m.b*m.c))))/\A (J=J)/\A (nr ((-1:Int)*((4096:Int)*(m.b*m.e-m.a*m.f))) ((0:Int)-(m.a*m.d-m.b*m.c))=nr ((-1:Int)*((4096:Int)*(m.b*m.e-m.a*m.f))) ((0:Int)-(m.a*m.d-m.b*m.c))))/\True)/\A True)/\True/\K (decide ((Go.Proofs.YthappngbapbkfaaGreat.Aff.Mat.mk (nr ((-1:Int)*((16777216:Int)*m.d)) ((0:Int)-(m.a*m.d-m.b*m.c))) (nr ((-1:Int)*((-16777216:Int)*m.b)) ((0:Int)-(m.a*m.d-m.b*m.c))) (nr ((-1:Int)*((-16777216:Int)*m.c)) ((0:Int)-(m.a*m.d-m.b*m.c))) (nr ((-1:Int)*((16777216:Int)*m.a)) ((0:Int)-(m.a*m.d-m.b*m.c))) (nr ((-1:Int)*((4096:Int)*(m.c*m.f-m.d*m.e))) ((0:Int)-(m.a*m.d-m.b*m.c))) (nr ((-1:Int)*((4096:Int)*(m.b*m.e-m.a*m.f))) ((0:Int)-(m.a*m.d-m.b*m.c)))).chk≠(0:Int))) (T3 ((True/\True)/\(True/\(((((True/\A (J=J)/\A ((0:Int)=(invM m).a))/\A (J=J)/\A ((0:Int)=(invM m).b))/\A (J=J)/\A ((0:Int)=(invM m).c))/\A (J=J)/\A ((0:Int)=(invM m).d))/\A (J=J)/\A ((0:Int)=(invM m).e))/\A (J=J)/\A ((0:Int)=(invM m).f))/\A (J=J)/\A ((10:Int)=invE m))) (T3 ((True/\True)/\(True/\(((((True/\A (J=J)/\A (nr ((-1:Int)*((16777216:Int)*m.d)) ((0:Int)-(m.a*m.d-m.b*m.c))=(invM m).a))/\A (J=J)/\A (nr ((-1:Int)*((-16777216:Int)*m.b)) ((0:Int)-(m.a*m.d-m.b*m.c))=(invM m).b))/\A (J=J)/\A (nr ((-1:Int)*((-16777216:Int)*m.c)) ((0:Int)-(m.a*m.d-m.b*m.c))=(invM m).c))/\A (J=J)/\A (nr ((-1:Int)*((16777216:Int)*m.a)) ((0:Int)-(m.a*m.d-m.b*m.c))=(invM m).d))/\A (J=J)/\A (nr ((-1:Int)*((4096:Int)*(m.c*m.f-m.d*m.e))) ((0:Int)-(m.a*m.d-m.b*m.c))=(invM m).e))/\A (J=J)/\A (nr ((-1:Int)*((4096:Int)*(m.b*m.e-m.a*m.f))) ((0:Int)-(m.a*m.d-m.b*m.c))=(invM m).f))/\A (J=J)/\A ((0:Int)=invE m))))))))))))) (T5 (A ((-9223372036854775808:Int)<=(16777216:Int)*m.d/\(16777216:Int)*m.d<=(9223372036854775807:Int))/\(((A (J=J)/\A ((16777216:Int)*m.d=(16777216:Int)*m.d))/\(True/\A (J=J)/\A ((1:Int)=(1:Int)))/\(True/\A (J=J)/\A (m.a*m.d-m.b*m.c=m.a*m.d-m.b*m.c))/\True)/\A (((-4611686018427387904:Int)<=(1:Int)*((16777216:Int)*m.d)/\(1:Int)*((16777216:Int)*m.d)<=(4611686018427387904:Int))/\(1:Int)<=m.a*m.d-m.b*m.c/\m.a*m.d-m.b*m.c<=(4611686018427387904:Int)))/\T3 (A ((-9223372036854775808:Int)<=(-16777216:Int)*m.b/\(-16777216:Int)*m.b<=(9223372036854775807:Int))/\(((A (J=J)/\A ((-16777216:Int)*m.b=(-16777216:Int)*m.b))/\(True/\A (J=J)/\A ((1:Int)=(1:Int)))/\(True/\A (J=J)/\A (m.a*m.d-m.b*m.c=m.a*m.d-m.b*m.c))/\True)/\A (((-4611686018427387904:Int)<=(1:Int)*((-16777216:Int)*m.b)/\(1:Int)*((-16777216:Int)*m.b)<=(4611686018427387904:Int))/\(1:Int)<=m.a*m.d-m.b*m.c/\m.a*m.d-m.b*m.c<=(4611686018427387904:Int)))/\T3 (A ((-9223372036854775808:Int)<=(-16777216:Int)*m.c/\(-16777216:Int)*m.c<=(9223372036854775807:Int))/\(((A (J=J)/\A ((-16777216:Int)*m.c=(-16777216:Int)*m.c))/\(True/\A (J=J)/\A ((1:Int)=(1:Int)))/\(True/\A (J=J)/\A (m.a*m.d-m.b*m.c=m.a*m.d-m.b*m.c))/\True)/\A (((-4611686018427387904:Int)<=(1:Int)*((-16777216:Int)*m.c)/\(1:Int)*((-16777216:Int)*m.c)<=(4611686018427387904:Int))/\(1:Int)<=m.a*m.d-m.b*m.c/\m.a*m.d-m.b*m.c<=(4611686018427387904:Int)))/\T3 (A ((-9223372036854775808:Int)<=(16777216:Int)*m.a/\(16777216:Int)*m.a<=(9223372036854775807:Int))/\(((A (J=J)/\A ((16777216:Int)*m.a=(16777216:Int)*m.a))/\(True/\A (J=J)/\A ((1:Int)=(1:Int)))/\(True/\A (J=J)/\A (m.a*m.d-m.b*m.c=m.a*m.d-m.b*m.c))/\True)/\A (((-4611686018427387904:Int)<=(1:Int)*((16777216:Int)*m.a)/\(1:Int)*((16777216:Int)*m.a)<=(4611686018427387904:Int))/\(1:Int)<=m.a*m.d-m.b*m.c/\m.a*m.d-m.b*m.c<=(4611686018427387904:Int)))/\T5 (A ((-9223372036854775808:Int)<=m.c*m.f/\m.c*m.f<=(9223372036854775807:Int))/\T4 (A ((-9223372036854775808:Int)<=m.d*m.e/\m.d*m.e<=(9223372036854775807:Int))/\A ((-9223372036854775808:Int)<=m.c*m.f-m.d*m.e/\m.c*m.f-m.d*m.e<=(9223372036854775807:Int))/\A ((-9223372036854775808:Int)<=(4096:Int)*(m.c*m.f-m.d*m.e)/\(4096:Int)*(m.c*m.f-m.d*m.e)<=(9223372036854775807:Int))/\(((A (J=J)/\A ((4096:Int)*(m.c*m.f-m.d*m.e)=(4096:Int)*(m.c*m.f-m.d*m.e)))/\(True/\A (J=J)/\A ((1:Int)=(1:Int)))/\(True/\A (J=J)/\A (m.a*m.d-m.b*m.c=m.a*m.d-m.b*m.c))/\True)/\A (((-4611686018427387904:Int)<=(1:Int)*((4096:Int)*(m.c*m.f-m.d*m.e))/\(1:Int)*((4096:Int)*(m.c*m.f-m.d*m.e))<=(4611686018427387904:Int))/\(1:Int)<=m.a*m.d-m.b*m.c/\m.a*m.d-m.b*m.c<=(4611686018427387904:Int)))/\T5 (A ((-9223372036854775808:Int)<=m.b*m.e/\m.b*m.e<=(9223372036854775807:Int))/\T4 (A ((-9223372036854775808:Int)<=m.a*m.f/\m.a*m.f<=(9223372036854775807:Int))/\A ((-9223372036854775808:Int)<=m.b*m.e-m.a*m.f/\m.b*m.e-m.a*m.f<=(9223372036854775807:Int))/\A ((-9223372036854775808:Int)<=(4096:Int)*(m.b*m.e-m.a*m.f)/\(4096:Int)*(m.b*m.e-m.a*m.f)<=(9223372036854775807:Int))/\(((A (J=J)/\A ((4096:Int)*(m.b*m.e-m.a*m.f)=(4096:Int)*(m.b*m.e-m.a*m.f)))/\(True/\A (J=J)/\A ((1:Int)=(1:Int)))/\(True/\A (J=J)/\A (m.a*m.d-m.b*m.c=m.a*m.d-m.b*m.c))/\True)/\A (((-4611686018427387904:Int)<=(1:Int)*((4096:Int)*(m.b*m.e-m.a*m.f))/\(1:Int)*((4096:Int)*(m.b*m.e-m.a*m.f))<=(4611686018427387904:Int))/\(1:Int)<=m.a*m.d-m.b*m.c/\m.a*m.d-m.b*m.c<=(4611686018427387904:Int)))/\T4 (((((((((True/\A (J=J)/\A (nr ((1:Int)*((16777216:Int)*m.d)) (m.a*m.d-m.b*m.c)=nr ((1:Int)*((16777216:Int)*m.d)) (m.a*m.d-m.b*m.c)))/\A (J=J)/\A (nr ((1:Int)*((-16777216:Int)*m.b)) (m.a*m.d-m.b*m.c)=nr ((1:Int)*((-16777216:Int)*m.b)) (m.a*m.d-m.b*m.c)))/\A (J=J)/\A (nr ((1:Int)*((-16777216:Int)*m.c)) (m.a*m.d-m.b*m.c)=nr ((1:Int)*((-16777216:Int)*m.c)) (m.a*m.d-m.b*m.c)))/\A (J=J)/\A (nr ((1:Int)*((16777216:Int)*m.a)) (m.a*m.d-m.b*m.c)=nr ((1:Int)*((16777216:Int)*m.a)) (m.a*m.d-m.b*m.c)))/\A (J=J)/\A (nr ((1:Int)*((4096:Int)*(m.c*m.f-m.d*m.e))) (m.a*m.d-m.b*m.c)=nr ((1:Int)*((4096:Int)*(m.c*m.f-m.d*m.e))) (m.a*m.d-m.b*m.c)))/\A (J=J)/\A (nr ((1:Int)*((4096:Int)*(m.b*m.e-m.a*m.f))) (m.a*m.d-m.b*m.c)=nr ((1:Int)*((4096:Int)*(m.b*m.e-m.a*m.f))) (m.a*m.d-m.b*m.c)))/\True)/\A True)/\True/\K (decide ((Go.Proofs.YthappngbapbkfaaGreat.Aff.Mat.mk (nr ((1:Int)*((16777216:Int)*m.d)) (m.a*m.d-m.b*m.c)) (nr ((1:Int)*((-16777216:Int)*m.b)) (m.a*m.d-m.b*m.c)) (nr ((1:Int)*((-16777216:Int)*m.c)) (m.a*m.d-m.b*m.c)) (nr ((1:Int)*((16777216:Int)*m.a)) (m.a*m.d-m.b*m.c)) (nr ((1:Int)*((4096:Int)*(m.c*m.f-m.d*m.e))) (m.a*m.d-m.b*m.c)) (nr ((1:Int)*((4096:Int)*(m.b*m.e-m.a*m.f))) (m.a*m.d-m.b*m.c))).chk≠(0:Int))) (T3 ((True/\True)/\(True/\(((((True/\A (J=J)/\A ((0:Int)=(invM m).a))/\A (J=J)/\A ((0:Int)=(invM m).b))/\A (J=J)/\A ((0:Int)=(invM m).c))/\A (J=J)/\A ((0:Int)=(invM m).d))/\A (J=J)/\A ((0:Int)=(invM m).e))/\A (J=J)/\A ((0:Int)=(invM m).f))/\A (J=J)/\A ((10:Int)=invE m))) (T3 ((True/\True)/\(True/\(((((True/\A (J=J)/\A (nr ((1:Int)*((16777216:Int)*m.d)) (m.a*m.d-m.b*m.c)=(invM m).a))/\A (J=J)/\A (nr ((1:Int)*((-16777216:Int)*m.b)) (m.a*m.d-m.b*m.c)=(invM m).b))/\A (J=J)/\A (nr ((1:Int)*((-16777216:Int)*m.c)) (m.a*m.d-m.b*m.c)=(invM m).c))/\A (J=J)/\A (nr ((1:Int)*((16777216:Int)*m.a)) (m.a*m.d-m.b*m.c)=(invM m).d))/\A (J=J)/\A (nr ((1:Int)*((4096:Int)*(m.c*m.f-m.d*m.e))) (m.a*m.d-m.b*m.c)=(invM m).e))/\A (J=J)/\A (nr ((1:Int)*((4096:Int)*(m.b*m.e-m.a*m.f))) (m.a*m.d-m.b*m.c)=(invM m).f))/\A (J=J)/\A ((0:Int)=invE m))))))))))))))))))))) (by kernel_rfl) ?_
 rcases hm:m.ok with _ | _
 ·simp [aa4,aa8,hm,invM,invE,chk_eq m hm]
 have cm:=a96 m hm
 obtain ⟨ma,mb,mc,md,me,mf⟩:=m.ok_in hm
 have p1:=aH2 ma md
 have p2:=aH2 mb mc
 have p3:=aH2 mc mf
 have p4:=aH2 md me
 have p5:=aH2 mb me
 have p6:=aH2 ma mf
 have eo:Mat.mk (over m (16777216*m.d)) (over m (-16777216*m.b)) (over m (-16777216*m.c)) (over m (16777216*m.a)) (over m (4096*(m.c*m.f-m.d*m.e))) (over m (4096*(m.b*m.e-m.a*m.f)))=ax6 m:=rfl
 by_cases h0:m.a*m.d-m.b*m.c=0
 ·have h0':det m=0:=h0
  have hE:invE m=8:=by unfold invE; rw [hm]; simp [h0']
  simp [aa4,aa8,cm,h0,invM,hE]
  omega
 have h0':det m≠0:=h0
 by_cases hn:m.a*m.d-m.b*m.c<0
 ·have hs:sg (det m) = -1:=if_pos hn
  have ha:ab (det m)=0-(m.a*m.d-m.b*m.c):=if_pos hn
  have ov:∀ z,nr (-1*z) (0-(m.a*m.d-m.b*m.c))=over m z:=fun z=>by unfold over; rw [hs,ha]
  simp only [ov,eo]
  rcases ho:(ax6 m).ok with _ | _
  ·have hE:invE m=10:=by unfold invE; rw [hm,ho]; simp [h0']
   simp [aa4,aa8,cm,h0,hn,invM,hE,chk_eq _ ho]
   repeat' (first | apply And.intro | intro _)
   all_goals omega
  ·have hE:invE m=0:=by unfold invE; rw [hm,ho]; simp [h0']
   simp [aa4,aa8,cm,h0,hn,invM,hE,a96 _ ho]
   repeat' (first | apply And.intro | intro _)
   all_goals first | omega | rfl
 ·have hs:sg (det m)=1:=if_neg hn
  have ha:ab (det m)=m.a*m.d-m.b*m.c:=if_neg hn
  have ov:∀ z,nr (1*z) (m.a*m.d-m.b*m.c)=over m z:=fun z=>by unfold over; rw [hs,ha]
  simp only [ov,eo]
  rcases ho:(ax6 m).ok with _ | _
  ·have hE:invE m=10:=by unfold invE; rw [hm,ho]; simp [h0']
   simp [aa4,aa8,cm,h0,hn,invM,hE,chk_eq _ ho]
   repeat' (first | apply And.intro | intro _)
   all_goals omega
  ·have hE:invE m=0:=by unfold invE; rw [hm,ho]; simp [h0']
   simp [aa4,aa8,cm,h0,hn,invM,hE,a96 _ ho]
   repeat' (first | apply And.intro | intro _)
   all_goals first | omega | rfl
theorem inv_ok {m:Mat}(h:invE m=0):m.ok=true/\det m≠0/\(ax6 m).ok=true/\invM m=ax6 m:=by
 have hx:invM m=ax6 m:=by unfold invM; rw [if_pos h]
 unfold invE at h
 by_cases h2:det m=0<;>rcases h1:m.ok with _ | _<;>rcases h3:(ax6 m).ok with _ | _<;>simp [h1,h2,h3] at h ⊢
 exact hx
end Go.Proofs.YthappngbapbkfaaGreat.Afi
