/- Part 5 of the texts that the law's proof leans on. -/
import Derived.Test.YtmhofgchidojoaaGreatM4
import Derived.ChangeKeysEq
import Derived.RangeFuncRecord
import Derived.RangeFuncSeq
import Derived.Test.YtmhofgchidojoaaGreatRows
import Derived.Deep.QuietTactic
import Derived.BigQuiet
import Derived.WalkKit
import Derived.WalkSpells
import Derived.WalkLawsBesides
import Derived.Handy
import Derived.Lib.Hide
namespace Go.Proofs.YtmhofgchidojoaaGreat.Sx
open Go.RowKit
def guards (ops:Array Oper) (i:Nat):Bool:=ops.toList.any fun o=>match o.guard with
 | some (j,_)=>j==i
 | none=>false
def Br (b:Bool) (p q:Prop):Prop:=match b with
 | true=>p
 | false=>q
theorem Br.of {b p q} (h:Br b p q):(b=true->p)/\(b=false->q):=by
 cases b with
 | true=>exact ⟨fun _=>h,fun h'=>by cases h'⟩
 | false=>exact ⟨fun h'=>(by cases h'),fun _=>h⟩
theorem br_iff {b p q}:Br b p q<->(b=true->p)/\(b=false->q):=by
 refine ⟨Br.of,fun h=>?_⟩
 cases b with
 | true=>exact h.1 rfl
 | false=>exact h.2 rfl
def vcDo (P:Program) (specs:List FSpec) (eqs:List (TypeId×List CK)) (N:Nat) (ops:Array Oper) (o:Oper) (i:Nat) (K:St->Prop) (s:St):Prop:=
 match evOp P specs eqs N s.τ s.H s.H.length o with
 | some y=>y.ask/\forceH (nextH s.H y.eff) fun H=>force y.val fun v=>match v with
  | .bool b=>match guards ops i with
   | true=>Br b (K ⟨putT o.dst (.lit true) s.τ,H⟩) (K ⟨putT o.dst (.lit false) s.τ,H⟩)
   | false=>K ⟨putT o.dst (.bool b) s.τ,H⟩
  | v=>K ⟨putT o.dst v s.τ,H⟩
 | none=>False
def vcSkip (o:Oper) (K:St->Prop) (s:St):Prop:=K ⟨putT o.dst undefS s.τ,s.H⟩
def vcOps (P:Program) (specs:List FSpec) (eqs:List (TypeId×List CK)) (N:Nat) (ops:Array Oper):List Oper->Nat->(St->Prop)->St->Prop
 | [],_,K,s=>K s
 | o::r,i,K,s=>match o.guard with
  | none=>vcDo P specs eqs N ops o i (vcOps P specs eqs N ops r (i+1) K) s
  | some (j,want)=>match gsv N ops s.τ j with
   | .lit b=>match b==want with
    | true=>vcDo P specs eqs N ops o i (vcOps P specs eqs N ops r (i+1) K) s
    | false=>vcSkip o (vcOps P specs eqs N ops r (i+1) K) s
   | .tup ..=>vcSkip o (vcOps P specs eqs N ops r (i+1) K) s
   | _=>False
theorem lit_of {w X E b c u} (h:b=c) (hr:R w X E (.bool b) u):R w X E (.lit c) u:=by
 subst h
 rw [bool_inv hr]
 exact .lit
theorem vcDo_step {P specs eqs N ops o i K s} (hw:Want N ops s.τ o true) (h:vcDo P specs eqs N ops o i K s):∃ s',Step P specs eqs N ops o s s'/\K s':=by
 unfold vcDo at h
 cases hy:evOp P specs eqs N s.τ s.H s.H.length o with
 | none=>rw [hy] at h; exact h.elim
 | some y=>
  rw [hy] at h
  simp only [force_eq,forceH_eq] at h
  obtain ⟨ha,h⟩:=h
  have plain:∀ v,y.val=v->K ⟨putT o.dst v s.τ,nextH s.H y.eff⟩->∃ s',Step P specs eqs N ops o s s'/\K s':=by
   rintro v rfl hk
   exact ⟨_,.run hw hy ha (fun _ _ _ _ hr=>hr) (fun _ _ h=>h) (fun _ _ h=>h) (fun _ _ _ h=>h),hk⟩
  split at h
  ·rename_i b hb
   split at h
   ·cases hbb:b with
    | true=>exact ⟨_,.run (v:= .lit true) hw hy ha (fun w X E u hr=>lit_of hbb (hb▸hr)) (fun _ _ h=>by rw [hb] at h; cases h) (fun _ _ h=>by rw [hb] at h; cases h) (fun _ _ _ h=>by rw [hb] at h; cases h),h.of.1 hbb⟩
    | false=>exact ⟨_,.run (v:= .lit false) hw hy ha (fun w X E u hr=>lit_of hbb (hb▸hr)) (fun _ _ h=>by rw [hb] at h; cases h) (fun _ _ h=>by rw [hb] at h; cases h) (fun _ _ _ h=>by rw [hb] at h; cases h),h.of.2 hbb⟩
   ·exact plain _ hb h
  ·exact plain _ rfl h
theorem vcOps_tr {P specs eqs N ops}:∀ {l:List Oper}{i:Nat}{s:St}{K:St->Prop},vcOps P specs eqs N ops l i K s->∃ s',Tr P specs eqs N ops l s s'/\K s'
 | [],_,s,K,h=>⟨s,.nil,h⟩
 | o::r,i,s,K,h=>by
  have go:Want N ops s.τ o true->vcDo P specs eqs N ops o i (vcOps P specs eqs N ops r (i+1) K) s->∃ s',Tr P specs eqs N ops (o::r) s s'/\K s':=by
   intro hw h
   obtain ⟨s1,h1,h2⟩:=vcDo_step hw h
   obtain ⟨s',h3,h4⟩:=vcOps_tr h2
   exact ⟨s',.cons h1 h3,h4⟩
  have skip:Want N ops s.τ o false->vcSkip o (vcOps P specs eqs N ops r (i+1) K) s->∃ s',Tr P specs eqs N ops (o::r) s s'/\K s':=by
   intro hw h
   obtain ⟨s',h1,h2⟩:=vcOps_tr h
   exact ⟨s',.cons (.skip hw) h1,h2⟩
  simp only [vcOps] at h
  cases hg:o.guard with
  | none=>
   rw [hg] at h
   exact go (by unfold Want; rw [hg]) h
  | some jw=>
   obtain ⟨j,want⟩:=jw
   rw [hg] at h
   simp only at h
   split at h
   ·rename_i b hb
    split at h
    ·rename_i hbw
     exact go (by unfold Want; rw [hg]; exact .inl ⟨b,by rw [hb]; rfl,hbw.symm⟩) h
    ·rename_i hbw
     exact skip (by unfold Want; rw [hg]; exact .inl ⟨b,by rw [hb]; rfl,hbw.symm⟩) h
   ·rename_i n g hb
    exact skip (by unfold Want; rw [hg]; exact .inr ⟨n,g,hb,rfl⟩) h
   ·exact h.elim
inductive SExit:Type
 | normal
 | exit (id:Nat)
 | ret
def SExit.lift:SExit->Exit
 | .normal=> .normal
 | .exit id=> .exit id
 | .ret=> .ret
abbrev SK:=SExit->St->Prop
def thenK (k:St->Prop) (K:SK):SK
 | .normal,s=>k s
 | e,s=>K e s
def blockK (id:Nat) (K:SK):SK
 | .exit i,s=>if i=id then K .normal s else K (.exit i) s
 | e,s=>K e s
structure NSpec:Type where
 f:FuncId
 run:List SV->Option (Prop×(Nat->SV)×(Nat->List SO))
def GoesL (w0:World) (X0:Fr) (H:List SO) (E:Env) (w:World) (new:List SO) (sv:SV) (v:Value) (w':World):Prop:=
 ∃ E':Env,E.le E'/\Keeps (Xo X0 E H) w w'/\Within (Xo X0 E H) (Xo X0 E' (H++new)) w/\Rep w0 X0 (H++new) E' w'/\R w' (Xo X0 E' (H++new)) E' sv v
structure NewsOK (P:Program) (ns:NSpec):Prop where
 ent:∀ args w,(callFunc ns.f args).run P w = .ok (.enter ns.f args) w
 ok:∀ (l:List SV) (p:Prop) (res:Nat->SV) (new:Nat->List SO),ns.run l=some (p,res,new)->p->∀ (w0:World) (X0:Fr) (H:List SO) (E:Env) (w:World),Rep w0 X0 H E w->∀ (vals:Array Value),ArgsR w (Xo X0 E H) E l vals->
  Calls P ns.f vals w fun e w'=>∃ v,e = .returned v/\GoesL w0 X0 H E w (new H.length) (res H.length) v w'
structure ISpec:Type where
 f:FuncId
 run:List SV->Option (Prop×Nat×(Nat->List SV))
structure ItOK (P:Program) (is:ISpec):Prop where
 ent:∀ args w,(callFunc is.f args).run P w = .ok (.enter is.f args) w
 ok:∀ (l:List SV) (p:Prop) (cnt:Nat) (its:Nat->List SV),is.run l=some (p,cnt,its)->p->∀ (w:World) (X:Nat->Prop) (vals:Array Value),ArgsR w X E0 l vals->
  ∀ (lp:Nat) (J:Nat->(Nat->Prop)->World->Prop) (Jx:Nat->World->Prop),
   (∀ i B W W',J i B W->Below W.heap.size W W'->J i (fun b=>B b\/(W.heap.size<=b/\b<W'.heap.size)) W')->(∀ i W W',Jx i W->Below W.heap.size W W'->Jx i W')->
   (∀ i B W,J i B W->(w.heap.size<=W.heap.size/\∀ b,b<w.heap.size->¬ X b->W.heap[b]?=w.heap[b]?)/\∀ b,B b->b<W.heap.size)->
   (∀ i B W args,i<cnt->J i B W->ArgsR W (fun b=>¬ B b/\(w.heap.size<=b\/X b)) E0 (its i) args->
    YieldAt Fence.wide 0 P lp args W fun e W'=>(e = .returned (.bool true)/\J (i+1) B W'/\∀ b,B b->W'.heap[b]?=W.heap[b]?)\/(e = .returned (.bool false)/\Jx i W'))->
   ∀ W,J 0 (fun _=>False) W->Calls P is.f (#[.func (.yield lp) #[] #[]]++vals) W fun e W'=>(∃ v,e = .returned v)/\((∃ B,J cnt B W')\/∃ i,i<cnt/\Jx i W')
structure Inv:Type 1 where
 γ:Type
 pre:γ->Prop
 st:γ->St
 meas:γ->Nat
inductive LoopA:Type 1
 | inv (I:Inv)
 | rounds (n:Nat)
 | cut (I:Inv)
 | nest (I:Inv) (sub:I.γ->List (Nat×LoopA))
 | steps (n:Nat) (I:Nat->St) (sub:Nat->List (Nat×LoopA))
 | iter (is:ISpec) (pre:Nat->Prop) (st:Nat->List SO) (sub:Nat->List (Nat×LoopA))
 | news (q:Nat) (s:NSpec)
 | order (l:List Nat)
structure Ann:Type 1 where
 loops:List (Nat×LoopA)
 preps:List (Nat×List PrepA)
def findL:List (Nat×LoopA)->Nat->Option LoopA
 | [],_=>none
 | (k,x)::r,i=>match x with
  | .cut _=>findL r i
  | x=>if k=i then some x else findL r i
def findC:List (Nat×LoopA)->Nat->Option Inv
 | [],_=>none
 | (k,x)::r,i=>match x with
  | .cut I=>if k=i then some I else findC r i
  | _=>findC r i
def findP:List (Nat×List PrepA)->Nat->List PrepA
 | [],_=>[]
 | (k,x)::r,i=>if k=i then x else findP r i
def firstReg:Code->Option Nat
 | .region id _ _=>some id
 | .seq a b=>match firstReg a with
  | some i=>some i
  | none=>firstReg b
 | .cond _ a b=>match firstReg a with
  | some i=>some i
  | none=>firstReg b
 | .block _ c=>firstReg c
 | .loop c=>firstReg c
 | _=>none
def rounds (f:SK->St->Prop) (K:SK):Nat->St->Prop
 | 0,_=>False
 | n+1,s=>f (thenK (rounds f K n) K) s
def stepsK (W:Nat->St->Prop) (f:Nat->SK->Prop) (K:SK):Nat->Nat->St->Prop
 | 0,_,_=>False
 | n+1,k,s=>W k s/\f k (thenK (stepsK W f K n (k+1)) K)
def vcGo (P:Program) (specs:List FSpec) (eqs:List (TypeId×List CK)) (N:Nat) (ops:Array Oper) (d:Bool) (k:St->Prop) (s:St):Prop:=
 match d with
 | true=>vcOps P specs eqs N ops ops.toList 0 (fun s'=>match regB P (effS specs) s.H.length N s.τ s'.τ ops with
  | true=>k s'
  | false=>False) s
 | false=>vcOps P specs eqs N ops ops.toList 0 k s
def vcPost (m N:Nat) (k:St->Prop) (s:St):List PrepA->Prop
 | []=>k s
 | p::r=>match doPreps m N s (p::r) with
  | some s'=>k s'
  | none=>False
def vcNews (P:Program) (specs:List FSpec) (eqs:List (TypeId×List CK)) (N:Nat) (ops:Array Oper) (q:Nat) (ns:NSpec) (k:St->Prop) (s:St):Prop:=
 vcOps P specs eqs N ops (ops.toList.take q) 0 (fun s1=>match ops[q]? with
  | some o=>match o.guard with
   | some _=>False
   | none=>match o.op with
    | .call c=>match c.callee with
     | .value x=>match evO N s1.τ x with
      | .fn F n g=>match Nat.beq ns.f F with
       | true=>match ns.run (mapArgs N s1.τ c.args++(List.range n).map g) with
        | some r=>NewsOK P ns/\r.1/\vcOps P specs eqs N ops (ops.toList.drop (q+1)) 0 k ⟨putT o.dst (r.2.1 s1.H.length) s1.τ,s1.H++r.2.2 s1.H.length⟩
        | none=>False
       | false=>False
      | _=>False
     | _=>False
    | _=>False
  | none=>False) s
def opsOf (A:Ann) (id:Nat) (ops:Array Oper) (d:Bool):Array Oper:=match d with
 | false=>ops
 | true=>match findL A.loops (4000000+id) with
  | some (.order l)=>match permB l ops with
   | true=>permOps l ops
   | false=>ops
  | _=>ops
def vcReg (P:Program) (specs:List FSpec) (eqs:List (TypeId×List CK)) (N m:Nat) (A:Ann) (id:Nat) (ops:Array Oper) (d:Bool) (k:St->Prop) (s:St):Prop:=
 match findL A.loops (3000000+id) with
 | some (.news q ns)=>match d with
  | true=>False
  | false=>vcNews P specs eqs N ops q ns (fun s=>vcPost m N k s (findP A.preps (1000000+id))) s
 | _=>
 match findP A.preps id with
 | .nilc t::r=>match nilAlt N s t with
  | some q=>(q.1=0->match doPreps m N q.2.1 r with
   | some s'=>vcGo P specs eqs N (opsOf A id ops d) d (fun s=>vcPost m N k s (findP A.preps (1000000+id))) s'
   | none=>False)/\match doPreps m N q.2.2 r with
   | some s'=>vcGo P specs eqs N (opsOf A id ops d) d (fun s=>vcPost m N k s (findP A.preps (1000000+id))) s'
   | none=>False
  | none=>False
 | l=>match doPreps m N s l with
  | some s'=>vcGo P specs eqs N (opsOf A id ops d) d (fun s=>vcPost m N k s (findP A.preps (1000000+id))) s'
  | none=>False
def meets (m:Nat) (I:Inv) (s:St):Prop:=∃ g,Ask (I.pre g)/\withNm m s.H (I.st g).H (StLe s (I.st g))
def cutOf (A:Ann) (b:Code):Option Inv:=match firstReg b with
 | some i=>findC A.loops i
 | none=>none
def solid:SV->SV
 | .osl ..=> .any
 | .ownAt ..=> .any
 | .win ..=> .any
 | .omap _=> .any
 | .agg n g=> .agg n (fun i=>solid (g i))
 | .tup n g=> .tup n (fun i=>solid (g i))
 | .fn f n g=> .fn f n (fun i=>solid (g i))
 | .slP n g=> .slP n (fun i=>solid (g i))
 | .refP g=> .refP (fun i=>solid (g i))
 | .ifc T g=> .ifc T (fun i=>solid (g i))
 | s=>s
def solidT:Tmps->Tmps
 | []=>[]
 | (t,s)::r=>(t,solid s)::solidT r
def bindT:List Nat->List SV->Tmps->Tmps
 | p::ps,s::l,τ=>bindT ps l ((p,s)::τ)
 | _,_,τ=>τ
def assignK (k:St->Prop):SK
 | .normal,s=>k s
 | _,_=>False
def iterK (m:Nat) (τ0:Tmps) (pre:Nat->Prop) (st:Nat->List SO) (i:Nat) (K:SK):SK
 | .normal,s=>NmLe m (st i) s.H/\Ask (pre (i+1))/\withNm m s.H (st (i+1)) (StLe ⟨τ0,s.H⟩ ⟨τ0,st (i+1)⟩)
 | e,s=>NmLe m (st i) s.H/\K e ⟨τ0,s.H⟩
def vc (P:Program) (specs:List FSpec) (eqs:List (TypeId×List CK)) (N m:Nat) (r:Bool):Ann->Code->SK->St->Prop
 | _,.skip,K,s=>K .normal s
 | _,.label _,K,s=>K .normal s
 | A,.region id ops d,K,s=>vcReg P specs eqs N m A id ops d (K .normal) s
 | A,.seq a b,K,s=>match cutOf A b with
  | none=>vc P specs eqs N m r A a (thenK (vc P specs eqs N m r A b K) K) s
  | some I=>vc P specs eqs N m r A a (thenK (meets m I) K) s/\∀ g,I.pre g->vc P specs eqs N m r A b K (I.st g)
 | A,.cond c x y,K,s=>match evO N s.τ c with
  | .bool b=>Br b (vc P specs eqs N m r A x K s) (vc P specs eqs N m r A y K s)
  | .lit b=>match b with
   | true=>vc P specs eqs N m r A x K s
   | false=>vc P specs eqs N m r A y K s
  | _=>False
 | A,.block id c,K,s=>vc P specs eqs N m r A c (blockK id K) s
 | A,.loop c,K,s=>match firstReg c with
  | some i=>match findL A.loops i with
   | some (.inv I)=>(∃ g,Ask (I.pre g)/\withNm m s.H (I.st g).H (StLe s (I.st g)))/\∀ g,I.pre g->vc P specs eqs N m r A c (thenK (fun s'=>∃ g',Ask (I.pre g')/\withNm m s'.H (I.st g').H (StLe s' (I.st g')/\Ask (I.meas g'<I.meas g))) K) (I.st g)
   | some (.nest I sub)=>(∃ g,Ask (I.pre g)/\withNm m s.H (I.st g).H (StLe s (I.st g)))/\∀ g,I.pre g->vc P specs eqs N m r ⟨sub g++A.loops,A.preps⟩ c (thenK (fun s'=>∃ g',Ask (I.pre g')/\withNm m s'.H (I.st g').H (StLe s' (I.st g')/\Ask (I.meas g'<I.meas g))) K) (I.st g)
   | some (.rounds n)=>rounds (vc P specs eqs N m r A c) K n s
   | some (.steps n I sub)=>stepsK (fun k s=>withNm m s.H (I k).H (StLe s (I k))) (fun k K=>vc P specs eqs N m r ⟨sub k++A.loops,A.preps⟩ c K (I k)) K n 0 s
   | _=>False
  | none=>False
 | A,.rangeFunc g ps assign body,K,s=>match r with
  | true=>False
  | false=>match evO N s.τ g with
   | .fn f n cg=>match firstReg (.seq assign body) with
    | some i=>match findL A.loops i with
     | some (.iter is pre st sub)=>match Nat.beq is.f f&&((List.range n).map cg).all (isPure 6) with
      | true=>match is.run ((List.range n).map cg) with
       | some q=>ItOK P is/\q.1/\(Ask (pre 0)/\withNm m s.H (st 0) (StLe ⟨solidT s.τ,s.H⟩ ⟨solidT s.τ,st 0⟩))/\
        (∀ i,i<q.2.1->pre i->match Nat.beq (q.2.2 i).length ps.size with
         | true=>vc P specs eqs N (st i).length true ⟨sub i++A.loops,A.preps⟩ assign (assignK fun s1=>vc P specs eqs N (st i).length true ⟨sub i++A.loops,A.preps⟩ body (iterK m (solidT s.τ) pre st i K) s1) ⟨bindT ps.toList (q.2.2 i) (solidT s.τ),st i⟩
         | false=>False)/\(pre q.2.1->K .normal ⟨solidT s.τ,st q.2.1⟩)
       | none=>False
      | false=>False
     | _=>False
    | none=>False
   | _=>False
 | _,.exit id,K,s=>K (.exit id) s
 | _,.ret,K,s=>K .ret s
 | _,_,_,_=>False
def codeB (_:Option FuncId->Bool) (_:Code):Bool:=true
def KeepC (w w':World):Prop:=∀ (b:Nat) (o:Obj),w.heap[b]?=some o->(∀ ds,o≠Obj.deferred ds)->(∀ r,o≠Obj.loop r)->w'.heap[b]?=some o
theorem KeepC.cells {w w':World}(h:KeepC w w') {b:Nat}{c:Array Value}{T:TypeId}{fr:Nat×Nat}(hb:w.heap[b]?=some (.cells c T fr)):w'.heap[b]?=some (.cells c T fr):=h b _ hb (fun _ hc=>by cases hc) (fun _ hc=>by cases hc)
theorem KeepC.refl (w:World):KeepC w w:=fun _ _ h _ _=>h
theorem KeepC.trans {a b c:World}(h:KeepC a b) (k:KeepC b c):KeepC a c:=fun i o hi h1 h2=>k i o (h i o hi h1 h2) h1 h2
theorem KeepC.putObj {w:World}{D:Nat}{o o':Obj}(hb:w.heap[D]?=some o) (ho:(∃ ds,o = .deferred ds)\/∃ r,o = .loop r):KeepC w (w.putObj D o'):=by
 intro b x hx h1 h2
 have hne:b≠D:=fun hc=>by
  subst hc
  rw [hb] at hx
  cases hx
  rcases ho with ⟨ds,rfl⟩ | ⟨r,rfl⟩
  ·exact h1 ds rfl
  ·exact h2 r rfl
 exact (World.putObj_heap_other hne).trans hx
theorem R.turn {w w':World}(hk:KeepC w w') {X:Nat->Prop}{E:Env}{sv:SV}{v:Value}(h:R w X E sv v):R w' X E sv v:=by
 induction h with
 | any=>exact .any
 | int=>exact .int
 | bool=>exact .bool
 | lit=>exact .lit
 | str=>exact .str
 | nilfn=>exact .nilfn
 | cap0=>exact .cap0
 | fn hs _ ih=>exact .fn hs ih
 | agg hs ho _ ih=>exact .agg hs ho ih
 | tup hs _ ih=>exact .tup hs ih
 | sl0=>exact .sl0
 | sl hb hX hc hl ho _ ih=>exact .sl (hk.cells hb) hX hc hl ho ih
 | ref hb hX hc ho _ ih=>exact .ref (hk.cells hb) hX hc ho ih
 | own h=>exact .own h
 | osl h hv=>exact .osl h hv
 | oslOld h hl hv=>exact .oslOld h hl hv
 | ownAt h=>exact .ownAt h
 | ownAtOld h hl hv=>exact .ownAtOld h hl hv
 | win h hl ha h0=>exact .win h hl ha h0
 | nilsl=>exact .nilsl
 | con=>exact .con
 | slP hb hX hc hl ho _ ih=>exact .slP (hk.cells hb) hX hc hl ho ih
 | refP hb hX hc ho _ ih=>exact .refP (hk.cells hb) hX hc ho ih
 | ifc ho _ ih=>exact .ifc ho ih
 | omap h=>exact .omap h
 | omapOld h hl=>exact .omapOld h hl
 | slN _ ih=>exact .slN ih
 | winOld h hl hv=>exact .winOld h hl hv
theorem OwnsR.turn {w w':World}(hk:KeepC w w') {T n v len xs} (h:OwnsR w T n v len xs):OwnsR w' T n v len xs:=by
 rcases h with h | ⟨b,cap,cur,rfl,h1,h2⟩
 ·exact .inl h
 ·exact .inr ⟨b,cap,cur,rfl,hk.cells h1,h2⟩
theorem EIok.turn {w w':World}(hk:KeepC w w') {X:Nat->Prop}{E:Env}{e:EI}{so:SO}(h:EIok w X E e so):EIok w' X E e so:=by
 cases so with
 | dead=>cases e<;>trivial
 | cells n g T=>
  cases e with
  | slc=>exact h
  | blk b=>
   obtain ⟨vs,h1,h2,h3⟩:=h
   exact ⟨vs,hk.cells h1,h2,fun i hi=>⟨(h3 i hi).1,(h3 i hi).2.turn hk⟩⟩
 | scells n g=>
  cases e with
  | slc=>exact h
  | blk b=>
   obtain ⟨vs,T,fr,h1,h2,h3,h4⟩:=h
   exact ⟨vs,T,fr,hk.cells h1,h2,h3,fun i hi=>⟨(h4 i hi).1,(h4 i hi).2.turn hk⟩⟩
 | row ver len n g T=>
  cases e with
  | blk=>exact h
  | slc ver' v=>
   obtain ⟨h1,xs,h2,h3⟩:=h
   exact ⟨h1,xs,h2.turn hk,fun i j hi hj=>⟨(h3 i j hi hj).1,(h3 i j hi hj).2.turn hk⟩⟩
 | srow ver len n g=>
  cases e with
  | blk=>exact h
  | slc ver' v=>exact ⟨h.1,h.2.turn hk⟩
 | deep ver len n c m p g T T' ho=>
  cases e with
  | blk=>exact h
  | slc ver' v us=>
   obtain ⟨h1,xs,d⟩:=h
   refine ⟨h1,xs,d.pos,d.own.turn hk,fun i j hi h0 hj=>⟨(d.rest i j hi h0 hj).1,(d.rest i j hi h0 hj).2.turn hk⟩,fun i sv hi hh=>⟨(d.out i sv hi hh).1,(d.out i sv hi hh).2.turn hk⟩,fun i hi hh=>?_,d.apart,d.inj⟩
   obtain ⟨g1,ys,g2,g3⟩:=d.inn i hi hh
   exact ⟨g1,ys,g2.turn hk,fun i' j hi' hj=>⟨(g3 i' j hi' hj).1,(g3 i' j hi' hj).2.turn hk⟩⟩
 | mpi kk tot has val=>
  cases e with
  | blk=>exact h
  | slc ver' v us=>
   obtain ⟨h1,b,es,clock,rfl,h2,h3,h4,h5⟩:=h
   exact ⟨h1,b,es,clock,rfl,hk b _ h2 (fun _ hc=>by cases hc) (fun _ hc=>by cases hc),h3,fun l e hl he hk'=>(h4 l e hl he hk').turn hk,fun ht l hl hh=>(h5 ht l hl hh).turn hk⟩
 | mps kd has c m p T' ho=>
  cases e with
  | blk=>exact h
  | slc ver' v us=>
   obtain ⟨h1,b,es,clock,rfl,h2,d⟩:=h
   refine ⟨h1,b,es,clock,rfl,hk b _ h2 (fun _ hc=>by cases hc) (fun _ hc=>by cases hc),d.map,fun y e he hk' hh=>?_,d.gone,fun hy sv fl hho=>?_,d.inj⟩
   ·obtain ⟨g1,ys,g2,g3⟩:=d.inn y e he hk' hh
    exact ⟨g1,ys,g2.turn hk,fun i' j hi' hj=>⟨(g3 i' j hi' hj).1,(g3 i' j hi' hj).2.turn hk⟩⟩
   ·obtain ⟨g1,g2,g3⟩:=d.out hy sv fl hho
    exact ⟨g1,fun e he hk'=>(g2 e he hk').turn hk,fun hz=>(g3 hz).turn hk⟩
theorem Bel.turn {D:Nat->Prop}{w0 w:World}(h:Bel D w0 w) {b:Nat}(hb:w0.heap.size<=b) (o:Obj):Bel D w0 (w.putObj b o):=
 ⟨h.os,h.tape,h.output,by rw [World.putObj_size]; exact h.size,fun k hk hd=>(World.putObj_heap_other (by omega)).trans (h.block k hk hd)⟩
theorem Rep.turn {w0 X0 H E w} (h:Rep w0 X0 H E w) {b:Nat}{o o':Obj}(hb:w0.heap.size<=b) (ho:w.heap[b]?=some o) (hd:(∃ ds,o = .deferred ds)\/∃ r,o = .loop r):Rep w0 X0 H E (w.putObj b o'):=
 ⟨h.below.turn hb o',h.x0,h.nm,h.dom,fun k e he=>(h.ok k e he).turn (KeepC.putObj ho hd),h.low,h.inj⟩
theorem R_solid {w w':World}{X X':Nat->Prop}(hk:Keeps X w w') (hx:Within X X' w) {E:Env}{sv:SV}{v:Value}(h:R w X E sv v) :
  ∀ {E':Env},(∀ k b,E k=some (.blk b)->E' k=some (.blk b))->R w' X' E' (solid sv) v:=by
 induction h with
 | any=>intro E' _; exact .any
 | int=>intro E' _; exact .int
 | bool=>intro E' _; exact .bool
 | lit=>intro E' _; exact .lit
 | str=>intro E' _; exact .str
 | nilfn=>intro E' _; exact .nilfn
 | cap0=>intro E' _; exact .cap0
 | fn hs _ ih=>intro E' le; exact .fn hs fun i hi=>ih i hi le
 | agg hs ho _ ih=>intro E' le; exact .agg hs ho fun i hi=>ih i hi le
 | tup hs _ ih=>intro E' le; exact .tup hs fun i hi=>ih i hi le
 | sl0=>intro E' _; exact .sl0
 | sl hb hX hc hl ho hr=>
  intro E' _
  have hlt:=lt_of_block hb
  exact .sl ((hk _ hlt hX).trans hb) (fun hx'=>hX (hx _ hlt hx')) hc hl ho fun i j hi hj=>(hr i j hi hj).mono hk hx (Env.le_refl _)
 | ref hb hX hc ho hr=>
  intro E' _
  have hlt:=lt_of_block hb
  exact .ref ((hk _ hlt hX).trans hb) (fun hx'=>hX (hx _ hlt hx')) hc ho fun j hj=>(hr j hj).mono hk hx (Env.le_refl _)
 | own h=>intro E' le; exact .own (le _ _ h)
 | osl=>intro E' _; exact .any
 | oslOld=>intro E' _; exact .any
 | ownAt=>intro E' _; exact .any
 | ownAtOld=>intro E' _; exact .any
 | win=>intro E' _; exact .any
 | con=>intro E' _; exact .con
 | slP hb hX hc hl ho _ ih=>
  intro E' le
  have hlt:=lt_of_block hb
  exact .slP ((hk _ hlt hX).trans hb) (fun hx'=>hX (hx _ hlt hx')) hc hl ho fun i hi=>ih i hi le
 | refP hb hX hc ho _ ih=>
  intro E' le
  have hlt:=lt_of_block hb
  exact .refP ((hk _ hlt hX).trans hb) (fun hx'=>hX (hx _ hlt hx')) hc ho (ih le)
 | ifc ho _ ih=>intro E' le; exact .ifc ho (ih le)
 | omap=>intro E' _; exact .any
 | omapOld=>intro E' _; exact .any
 | nilsl=>intro E' _; exact .nilsl
 | slN _ ih=>intro E' le; exact .slN (ih le)
 | winOld=>intro E' _; exact .any
theorem solid_solid (s:SV):solid (solid s)=solid s:=by
 induction s with
 | agg n g ih=>simp only [solid,ih]
 | tup n g ih=>simp only [solid,ih]
 | fn f n g ih=>simp only [solid,ih]
 | slP n g ih=>simp only [solid,ih]
 | refP g ih=>simp only [solid,ih]
 | ifc T g ih=>simp only [solid,ih]
 | _=>rfl
theorem args_pure0 {w X E} {ss:List SV}{vs:Array Value}(h:ArgsR w X E ss vs) (hp:ss.all (isPure 6)=true):∀ i,i<ss.length->R w X E0 (ss.getD i .any) (vs.getD i undef):=fun i hi=>by
 refine isPure_sound 6 _ _ ?_ (h.2 i hi)
 rw [List.getD_eq_getElem?_getD,List.getElem?_eq_getElem hi]
 exact List.all_eq_true.1 hp _ (List.getElem_mem hi)
theorem Rep.turnBoth {w0 X0 H E w} (h:Rep w0 X0 H E w) {b:Nat}{r r':Loop}{o:Obj}(hb0:w0.heap[b]?=some (.loop r)) (hb:w.heap[b]?=some (.loop r')):Rep (w0.putObj b o) X0 H E (w.putObj b o):=by
 refine ⟨⟨h.below.os,h.below.tape,h.below.output,by rw [World.putObj_size,World.putObj_size]; exact h.below.size,fun k hk hd=>?_⟩,fun _ hx=>by rw [World.putObj_size]; exact h.x0 _ hx,h.nm,h.dom,fun k e he=>(h.ok k e he).turn (KeepC.putObj hb (.inr ⟨_,rfl⟩)),fun k e b he hh=>by rw [World.putObj_size]; exact h.low k e b he hh,h.inj⟩
 rw [World.putObj_size] at hk
 by_cases hkb:k=b
 ·subst hkb
  rw [World.putObj_heap_same (lt_of_block hb),World.putObj_heap_same hk]
 ·rw [World.putObj_heap_other hkb,World.putObj_heap_other hkb]
  exact h.below.block k hk hd
theorem lookT_solid:∀ (τ:Tmps) (t:Nat),lookT (solidT τ) t=solid (lookT τ t)
 | [],t=>rfl
 | (u,s)::r,t=>by
  simp only [solidT,lookT]
  split
  ·rfl
  ·exact lookT_solid r t
def reb (X0:Fr) (H:List SO) (E:Env):Fr:=⟨X0.x,fun b=>∃ k e,E k=some e/\holds e (H.getD k .dead) b,E,false⟩
theorem Rep.rebase {w0 X0 H E w} (h:Rep w0 X0 H E w):Rep w (reb X0 H E) H E w:=by
 refine ⟨Bel.refl _ _,fun b hb=>⟨Nat.lt_of_lt_of_le (h.x0 b hb).1 h.below.size,?_⟩,fun k e he=>?_,h.dom,h.ok,fun k e b he hb=> .inr ⟨k,e,he,hb⟩,h.inj⟩
 ·rintro ⟨k,e,he,hh⟩
  rcases h.low k e b he hh with h1 | h1
  ·have:=(h.x0 b hb).1; omega
  ·exact (h.x0 b hb).2 h1
 ·cases e with
  | blk b=>exact he
  | slc ver v us=>exact ⟨ver,v,us,he,fun _=>rfl⟩
theorem nm_blk {E E':Env}(h:∀ k e,E k=some e->NmOK e (E' k)):∀ k b,E k=some (.blk b)->E' k=some (.blk b):=fun k b he=>h k _ he
theorem Rep.unbase {w0 X0 H E w} (h:Rep w0 X0 H E w) {H' E' w'} (h':Rep w (reb X0 H E) H' E' w') {m:Nat}(hnm:∀ k,X0.nm k≠none->k<m) (hm:NmLe m H H') :
  Rep w0 X0 H' E' w'/\(∀ b,b<w.heap.size->Xo X0 E' H' b->Xo X0 E H b)/\Keeps (Xo X0 E H) w w'/\∀ k b,E k=some (.blk b)->E' k=some (.blk b):=by
 have hold:∀ b,b<w.heap.size->Xo X0 E' H' b->Xo X0 E H b:=by
  rintro b hb (hx | ⟨k,e,he,hh⟩)
  ·exact .inl hx
  ·rcases h'.low k e b he hh with h1 | h1
   ·omega
   ·exact .inr h1
 refine ⟨⟨⟨h'.below.os.trans h.below.os,h'.below.tape.trans h.below.tape,h'.below.output.trans h.below.output,Nat.le_trans h.below.size h'.below.size,fun k hk hd=>?_⟩,h.x0,fun k e he=>?_,h'.dom,h'.ok,fun k e b he hb=>?_,h'.inj⟩,hold,fun b hb hX=>h'.below.block b hb fun hd=>hX (.inr hd),nm_blk h'.nm⟩
 ·refine (h'.below.block k (Nat.lt_of_lt_of_le hk h.below.size) ?_).trans (h.below.block k hk hd)
  rintro ⟨j,e,he,hh⟩
  rcases h.low j e k he hh with h1 | h1
  ·omega
  ·exact hd h1
 ·have h1:=h.nm k e he
  cases e with
  | blk b=>exact h'.nm k _ h1
  | slc ver0 v us=>
   obtain ⟨ver1,v1,us1,e1,q1⟩:=h1
   obtain ⟨ver2,v2,us2,e2,q2⟩:=h'.nm k _ e1
   refine ⟨ver2,v2,us2,e2,fun hz=>(q2 hz).trans (q1 ?_)⟩
   have hv:=hm.get.2 k (hnm k (by rw [he]; simp))
   have ho:=h.ok k _ e1
   have ho':=h'.ok k _ e2
   have hver:rowVer (H'.getD k .dead)≠none->rowVer (H'.getD k .dead)=some ver2:=fun hne=>by
    cases hr:rowVer (H'.getD k .dead) with
    | none=>exact absurd hr hne
    | some ver3=>rw [EIok_ver ho' hr]
   have key:∀ v0:Nat,v0=ver1->(match rowVer (H'.getD k .dead) with | some (_+1)=>true | _=>Nat.beq v0 0)=true->ver1=0:=by
    rintro v0 rfl hb
    cases hr:rowVer (H'.getD k .dead) with
    | none=>rw [hr] at hb; exact Nat.eq_of_beq_eq_true hb
    | some ver3=>
     have:=hver (by rw [hr]; simp)
     rw [hr] at this
     cases this
     subst hz
     rw [hr] at hb
     exact Nat.eq_of_beq_eq_true hb
   cases hH:H.getD k .dead with
   | dead=>rw [hH] at hv; cases hv
   | cells=>rw [hH] at ho; exact ho.elim
   | scells=>rw [hH] at ho; exact ho.elim
   | row=>rw [hH] at hv ho; exact key _ ho.1.symm hv
   | srow=>rw [hH] at hv ho; exact key _ ho.1.symm hv
   | deep=>rw [hH] at hv ho; exact key _ ho.1.symm hv
   | mpi=>rw [hH] at ho; exact ho.1
   | mps=>rw [hH] at ho; exact ho.1
 ·rcases h'.low k e b he hb with h1 | ⟨j,e0,he0,hh⟩
  ·exact .inl (Nat.le_trans h.below.size h1)
  ·exact h.low j e0 b he0 hh
theorem holds_cells {w:World}{X:Nat->Prop}{E:Env}{e:EI}{so:SO}(h:EIok w X E e so) {b:Nat}(hb:holds e so b):(∃ c T fr,w.heap[b]?=some (.cells c T fr))\/∃ es clock,w.heap[b]?=some (.map es clock):=by
 have own:∀ {T n v len xs},OwnsR w T n v len xs->blkOf v=some b->∃ c T fr,w.heap[b]?=some (.cells c T fr):=by
  rintro T n v len xs (⟨a,rfl,_⟩ | ⟨b',cap,cur,rfl,h4,_⟩) hb
  ·cases a<;>simp [blkOf] at hb
  ·simp only [blkOf,Option.some.injEq] at hb
   subst hb
   exact ⟨_,_,_,h4⟩
 cases so with
 | dead=>cases e<;>simp [holds] at hb
 | cells n g T=>
  cases e with
  | slc=>exact h.elim
  | blk b'=>
   simp only [holds] at hb
   subst hb
   obtain ⟨vs,h1,_⟩:=h
   exact .inl ⟨_,_,_,h1⟩
 | scells n g=>cases e<;>simp [holds] at hb
 | row ver len n g T=>
  cases e with
  | blk=>exact h.elim
  | slc ver' v=>
   obtain ⟨h1,xs,h2,h3⟩:=h
   exact .inl (own h2 hb)
 | srow ver len n g=>cases e<;>simp [holds] at hb
 | deep ver len n c m p g T T' ho=>
  cases e with
  | blk=>exact h.elim
  | slc ver' v us=>
   obtain ⟨h1,xs,d⟩:=h
   rcases hb with hb | ⟨i,hi,hh,hu⟩
   ·exact .inl (own d.own hb)
   ·obtain ⟨g1,ys,g2,g3⟩:=d.inn i hi hh
    exact .inl (own g2 (g1.trans hu))
 | mpi kk tot has val=>
  cases e with
  | blk=>exact h.elim
  | slc ver' v us=>
   obtain ⟨h1,b',es,clock,rfl,h2,_⟩:=h
   simp only [holds,mblk,Option.some.injEq] at hb
   subst hb
   exact .inr ⟨_,_,h2⟩
 | mps kd has c m p T' ho=>
  cases e with
  | blk=>exact h.elim
  | slc ver' v us=>
   obtain ⟨h1,b',es,clock,rfl,h2,d⟩:=h
   rcases hb with hb | ⟨y,hh,hu⟩
   ·simp only [mblk,Option.some.injEq] at hb
    subst hb
    exact .inr ⟨_,_,h2⟩
   ·cases hy:has y with
    | false=>rw [(d.gone y hy).2] at hu; cases hu
    | true=>
     obtain ⟨e,he,hke⟩:=(d.map.iff [y] rfl).1 hy
     obtain ⟨g1,ys,g2,g3⟩:=d.inn y e he hke hh
     exact .inl (own g2 (g1.trans hu))
theorem Rep.not_book {w0 X0 H E w} (h:Rep w0 X0 H E w) {b:Nat}{o:Obj}(hb:w.heap[b]?=some o) (ho:(∃ ds,o = .deferred ds)\/∃ r,o = .loop r):¬ ∃ k e,E k=some e/\holds e (H.getD k .dead) b:=by
 rintro ⟨k,e,he,hh⟩
 rcases holds_cells (h.ok k e he) hh with ⟨c,T,fr,hc⟩ | ⟨es,clock,hc⟩
 ·rw [hb] at hc
  cases hc
  rcases ho with ⟨ds,hc⟩ | ⟨r,hc⟩<;>cases hc
 ·rw [hb] at hc
  cases hc
  rcases ho with ⟨ds,hc⟩ | ⟨r,hc⟩<;>cases hc
theorem bindT_sound {w:World}{X:Nat->Prop}{E:Env}{N:Nat}:∀ (ps:List Nat) (l:List SV) (vs:List Value) (τ:Tmps) (tm:Array Value),ps.length=l.length->vs.length=l.length->(∀ i,i<l.length->R w X E (l.getD i .any) (vs.getD i undef))->
  tm.size=N->(∀ t,t<N->R w X E (lookT τ t) (tm.getD t undef))->
  ((ps.zip vs).foldl (fun t (p,v)=>t.setIfInBounds p v) tm).size=N/\∀ t,t<N->R w X E (lookT (bindT ps l τ) t) (((ps.zip vs).foldl (fun t (p,v)=>t.setIfInBounds p v) tm).getD t undef)
 | [],l,vs,τ,tm,_,_,_,hs,ht=>⟨hs,fun t h=>by cases l<;>exact ht t h⟩
 | p::ps,[],vs,τ,tm,h1,_,_,hs,ht=>by simp at h1
 | p::ps,s::l,[],τ,tm,_,h2,_,hs,ht=>by simp at h2
 | p::ps,s::l,v::vs,τ,tm,h1,h2,hr,hs,ht=>by
  simp only [List.zip_cons_cons,List.foldl_cons,bindT]
  refine bindT_sound ps l vs _ _ (by simpa using h1) (by simpa using h2) (fun i hi=>by have:=hr (i+1) (by simpa using hi); simpa using this) (by simp [hs]) fun t hlt=>?_
  simp only [lookT]
  by_cases hp:p=t
  ·subst hp
   rw [if_pos rfl,Array.getD_eq_getD_getElem?,Array.getElem?_setIfInBounds_self_of_lt (by omega)]
   have:=hr 0 (by simp)
   simpa using this
  ·rw [if_neg hp,Array.getD_eq_getD_getElem?,Array.getElem?_setIfInBounds_ne hp,<-Array.getD_eq_getD_getElem?]
   exact ht t hlt
section
variable {P:Program}{w0:World}{X0:Fr}{specs:List FSpec}{eqs:List (TypeId×List CK)}{N m:Nat}
def Lifts (w0:World) (X0:Fr) (N:Nat) (K:SK) (Q:Exit->Act->World->Prop):Prop:=∀ e s a w,K e s->StR w0 X0 N s a w->Q e.lift a w
theorem meets_sound {I:Inv}{s:St}(hnm:∀ k,X0.nm k≠none->k<m) (h:meets m I s) {a:Act}{w:World}(hs:StR w0 X0 N s a w):∃ g,I.pre g/\StR w0 X0 N (I.st g) a w:=by
 obtain ⟨g,⟨hp⟩,hl⟩:=h
 exact ⟨g,hp,hs.le hnm hl.get.1 hl.get.2⟩
def FrOK (r:Bool) (F:Fence):Prop:=F=Fence.wide\/(r=true/\∃ l,F=Fence.wide.inRound l)
theorem FrOK.wd {r:Bool}{F:Fence}(h:FrOK r F):Wd F:=h.elim .inl fun h=> .inr h.2
theorem iter_sound (_:∀ t n,(t,n)∈eqs->EqOK P t n) (_:P.follows .mixedOrders=true) {g:Operand}{ps:Array Tmp}{assign body:Code}
  (iha:∀ {w0:World}{X0:Fr}{m:Nat}{r:Bool}{F:Fence}{n:Nat}(_:FrOK r F) (_:r=false->X0.marks=true) (_:∀ k,X0.nm k≠none->k<m) (A:Ann) (K:SK) (Q:Exit->Act->World->Prop) (s:St),vc P specs eqs N m r A assign K s->Lifts w0 X0 N K Q->∀ a w,StR w0 X0 N s a w->assign.wpIn F n P Q a w)
  (ihb:∀ {w0:World}{X0:Fr}{m:Nat}{r:Bool}{F:Fence}{n:Nat}(_:FrOK r F) (_:r=false->X0.marks=true) (_:∀ k,X0.nm k≠none->k<m) (A:Ann) (K:SK) (Q:Exit->Act->World->Prop) (s:St),vc P specs eqs N m r A body K s->Lifts w0 X0 N K Q->∀ a w,StR w0 X0 N s a w->body.wpIn F n P Q a w)
  {w0:World}{X0:Fr}{m:Nat}{r:Bool}{F:Fence}{nn:Nat}(hF:FrOK r F) (hmk:r=false->X0.marks=true) (hnm:∀ k,X0.nm k≠none->k<m) {A:Ann}{K:SK}{Q:Exit->Act->World->Prop}{s:St}(h:vc P specs eqs N m r A (.rangeFunc g ps assign body) K s) (hl:Lifts w0 X0 N K Q) {a:Act}{w:World}(hs:StR w0 X0 N s a w) :
  (Code.rangeFunc g ps assign body).wpIn F nn P Q a w:=by
 simp only [vc] at h
 split at h
 case h_1=>exact h.elim
 obtain rfl:F=Fence.wide:=hF.elim id fun h=>(nomatch h.1)
 have hmk:X0.n0 w0=some w0.heap.size:=by unfold Fr.n0; rw [hmk rfl]
 split at h
 case h_2=>exact h.elim
 rename_i f nc cg hg
 split at h
 case h_2=>exact h.elim
 split at h
 case h_2=>exact h.elim
 rename_i is pre st sub _
 split at h
 case h_2=>exact h.elim
 rename_i hb
 rw [Bool.and_eq_true] at hb
 obtain ⟨hbf,hpu⟩:=hb
 split at h
 case h_2=>exact h.elim
 rename_i q hq
 obtain ⟨hit,hp,⟨⟨hp0⟩,hn0⟩,hround,hdone⟩:=h
 obtain ⟨p,cnt,its⟩:=q
 simp only at hp hround hdone hn0
 obtain rfl:=Nat.eq_of_beq_eq_true hbf
 obtain ⟨τ0,hτ0⟩:∃ τ0,solidT s.τ=τ0:=⟨_,rfl⟩
 rw [hτ0] at hn0 hround hdone
 obtain ⟨E,hrep,htr⟩:=id hs
 obtain ⟨vs,hga,hvs,hcg⟩:=fn_inv (hg▸evO_sound htr g)
 have hcapt:ArgsR w (Xo X0 E s.H) E0 ((List.range nc).map cg) vs:=by
  have hA:ArgsR w (Xo X0 E s.H) E ((List.range nc).map cg) vs:=⟨by simp [hvs],fun i hi=>by
   have hi':i<nc:=by simpa using hi
   have:=hcg i hi'
   rw [List.getD_eq_getElem?_getD,List.getElem?_map,List.getElem?_range hi']
   exact this⟩
  exact ⟨hA.1,args_pure0 hA hpu⟩
 have hsol:StR w0 X0 N ⟨τ0,s.H⟩ a w:=⟨E,hrep,htr.1,htr.2.1,fun t ht=>by rw [<-hτ0,lookT_solid]; exact R_solid (fun _ _ _=>rfl) (Within.refl _ _) (htr.2.2 t ht) fun _ _ h=>h⟩
 obtain ⟨hm1,hle⟩:=hn0.get
 obtain ⟨hx1a,hrep1,htr1⟩:∃ hx:(∀ b,Xo X0 (E.cut (st 0)) (st 0) b->Xo X0 E s.H b),Rep w0 X0 (st 0) (E.cut (st 0)) w/\TR (X0.n0 w0) w (Xo X0 (E.cut (st 0)) (st 0)) (E.cut (st 0)) N τ0 a:=by
  obtain ⟨g1,hx⟩:=hrep.le hle.2 hnm hm1
  exact ⟨hx,g1,htr.1,htr.2.1.mono (fun _ _ _=>rfl) (fun b _ hb=>hx b hb),fun u hu=>SVle_sound hx (fun k ver v us he ver' hr=>EIok_ver (hrep.ok k _ he) hr) (tmpLe_get hle.1 u) (by rw [<-hτ0,lookT_solid]; exact R_solid (fun _ _ _=>rfl) (Within.refl _ _) (htr.2.2 u hu) fun _ _ h=>h)⟩
 generalize hE1:E.cut (st 0)=E1 at hx1a hrep1 htr1
 have hcapt1:ArgsR w (Xo X0 E1 (st 0)) E0 ((List.range nc).map cg) vs:=⟨hcapt.1,fun i hi=>(hcapt.2 i hi).mono (fun _ _ _=>rfl) (fun b _ hb=>hx1a b hb) (Env.le_refl _)⟩
 obtain ⟨X1,hX1⟩:∃ X1,Xo X0 E1 (st 0)=X1:=⟨_,rfl⟩
 rw [hX1] at hcapt1
 refine wpIn_rangeFunc ?_
 intro fn _
 obtain ⟨rec,hrec⟩:∃ rec:LoopState->Option Code->Loop,rec=fun st pe=>{ state:=st,pending:=pe,fn,tmps:=a.tmps,params:=ps,assign,body,defers:=w.heap.size }:=⟨_,rfl⟩
 obtain ⟨W1,hW1⟩:∃ W1,(w.alloc (.deferred (some []))).alloc (.loop (rec .ready none))=W1:=⟨_,rfl⟩
 have hL1:W1.heap[w.heap.size+1]?=some (.loop (rec .ready none)):=by
  rw [<-hW1]; have:=World.alloc_heap_new (w.alloc (.deferred (some []))) (.loop (rec .ready none)); rwa [World.size_alloc] at this
 have hb1:Below w.heap.size w W1:=by
  rw [<-hW1]; exact ((Below.refl _ w).alloc (Nat.le_refl _) _).alloc (by simp) _
 have hK1:W1.heap[w.heap.size]?=some (.deferred (some [])):=by
  rw [<-hW1]; exact (Below.heap_alloc _ _ _ (by simp)).trans (World.alloc_heap_new w _)
 have hw0:w0.heap.size<=w.heap.size:=hrep.below.size
 refine ⟨w.heap.size+1,[{ target:= .collected w.heap.size,args:=#[] }],W1,{ target:= .fn (.func is.f) vs,args:=#[.func (.yield (w.heap.size+1)) #[] #[]] },W1,is.f,
  #[.func (.yield (w.heap.size+1)) #[] #[]]++vs,W1,?_,?_,fun f' _=>trivial,?_,fun hd=>(nomatch hd),?_⟩
 ·rw [<-hW1,hrec]; exact run_enterLoop_outer _ _ _ _ _
 ·simp only [resolve,hga]
  simp [go_sem]
 ·simp [invoke,go_sem,hit.ent]
 obtain ⟨J0,hJ0⟩:∃ J0:List SO->Env->World->Prop,J0=fun H E' W=>Rep w0 X0 H E' W/\TR (X0.n0 w0) W (Xo X0 E' H) E' N τ0 a/\(∀ b,b<w.heap.size->Xo X0 E' H b->X1 b)/\w.heap.size<=W.heap.size/\(∀ b,b<w.heap.size->¬ X1 b->W.heap[b]?=w.heap[b]?)/\W.heap[w.heap.size]?=some (.deferred (some [])):=⟨_,rfl⟩
 have J0below:∀ {H E' W W'},J0 H E' W->Below W.heap.size W W'->J0 H E' W':=by
  subst hJ0
  rintro H E' W W' ⟨h1,h2,h3,h4,h5,h6⟩ hb
  exact ⟨h1.world hb,h2.mono (Rep.keeps hb) (Within.refl _ _) (Env.le_refl _),h3,Nat.le_trans h4 hb.size,fun b hlt hx=>(hb.block b (by omega)).trans (h5 b hlt hx),(hb.block _ (lt_of_block h6)).trans h6⟩
 have J0turn:∀ {H E' W} {o:Obj}{r:Loop},J0 H E' W->W.heap[w.heap.size+1]?=some (.loop r)->J0 H E' (W.putObj (w.heap.size+1) o):=by
  subst hJ0
  rintro H E' W o r ⟨h1,h2,h3,h4,h5,h6⟩ hl
  have hk:KeepC W (W.putObj (w.heap.size+1) o):=KeepC.putObj hl (.inr ⟨_,rfl⟩)
  refine ⟨h1.turn (by omega) hl (.inr ⟨_,rfl⟩),⟨h2.1,⟨h2.2.1.1,h2.2.1.2.1,fun d hd=>?_⟩,fun t ht=>(h2.2.2 t ht).turn hk⟩,h3,by rw [World.putObj_size]; exact h4,fun b hlt hx=>(World.putObj_heap_other (by omega)).trans (h5 b hlt hx),(World.putObj_heap_other (by omega)).trans h6⟩
  obtain ⟨D,rfl,g1,g2,g3⟩:=h2.2.1.2.2 d hd
  refine ⟨D,rfl,g1,(World.putObj_heap_other fun hc=>?_).trans g2,g3⟩
  subst hc
  rw [hl] at g2
  cases g2
 have J0step:∀ {H E' W H2 E2 W2},J0 H E' W->Rep W (reb X0 H E') H2 E2 W2->NmLe m H H2->J0 H2 E2 W2:=by
  subst hJ0
  rintro H E' W H2 E2 W2 ⟨h1,h2,h3,h4,h5,h6⟩ hr hmm
  obtain ⟨u1,u2,u3,u4⟩:=h1.unbase hr hnm hmm
  have hxx:∀ b,b<w.heap.size->Xo X0 E2 H2 b->X1 b:=fun b hlt hb=>h3 b hlt (u2 b (by omega) hb)
  refine ⟨u1,⟨h2.1,h2.2.1.mono u3 u2,fun t ht=>?_⟩,hxx,Nat.le_trans h4 hr.below.size,fun b hlt hx=>(u3 b (by omega) fun hc=>hx (h3 b hlt hc)).trans (h5 b hlt hx),?_⟩
  ·have:=R_solid u3 u2 (h2.2.2 t ht) u4
   rw [<-hτ0,lookT_solid] at this ⊢
   rwa [solid_solid] at this
  ·refine (hr.below.block _ (lt_of_block h6) (h1.not_book h6 (.inl ⟨_,rfl⟩))).trans h6
 have J0le:∀ {H E' W H2},J0 H E' W->NmLe m H H2->StLe ⟨τ0,H⟩ ⟨τ0,H2⟩->J0 H2 (E'.cut H2) W:=by
  subst hJ0
  rintro H E' W H2 ⟨h1,h2,h3,h4,h5,h6⟩ hmm hle
  obtain ⟨g1,hx⟩:=h1.le hle.2 hnm hmm
  exact ⟨g1,⟨h2.1,h2.2.1.mono (fun _ _ _=>rfl) (fun b _ hb=>hx b hb),fun u hu=>SVle_sound hx (fun k ver v us he ver' hr=>EIok_ver (h1.ok k _ he) hr) (tmpLe_get hle.1 u) (h2.2.2 u hu)⟩,fun b hlt hb=>h3 b hlt (hx b hb),h4,h5,h6⟩
 have hJstart:J0 (st 0) E1 W1:=by
  have h0:Rep w0 X0 (st 0) E1 W1/\TR (X0.n0 w0) W1 (Xo X0 E1 (st 0)) E1 N τ0 a:=⟨hrep1.world hb1,htr1.mono (Rep.keeps hb1) (Within.refl _ _) (Env.le_refl _)⟩
  rw [hJ0]
  exact ⟨h0.1,h0.2,fun b _ hb=>by rw [<-hX1]; exact hb,hb1.size,fun b hlt _=>hb1.block b hlt,hK1⟩
 have hcall:=hit.ok _ _ _ _ hq hp w X1 vs hcapt1 (w.heap.size+1)
  (fun i B W=>(∃ E',J0 (st i) E' W/\∀ b,B b->b<W.heap.size/\b≠w.heap.size+1/\¬ Xo X0 E' (st i) b)/\pre i/\W.heap[w.heap.size+1]?=some (.loop (rec .ready none)))
  (fun _ W=>∃ (e:SExit) (c:Code) (H':List SO) (E':Env),((e = .ret/\c = .ret)\/∃ id,e = .exit id/\c = .exit id)/\K e ⟨τ0,H'⟩/\J0 H' E' W/\W.heap[w.heap.size+1]?=some (.loop (rec .done (some c))))
  (fun i B W W' ⟨⟨E',h1,hB⟩,h2,h3⟩ hb=>⟨⟨E',J0below h1 hb,fun b hbb=>by
   rcases hbb with hbb | ⟨hbb,hlt⟩
   ·exact ⟨Nat.lt_of_lt_of_le (hB b hbb).1 hb.size,(hB b hbb).2⟩
   ·refine ⟨hlt,fun hc=>?_,fun hc=>?_⟩
    ·have:=lt_of_block h3; omega
    ·subst hJ0
     have:=h1.1.xlt b hc
     omega⟩,h2,(hb.block _ (lt_of_block h3)).trans h3⟩)
  (fun _ W W' ⟨e,c,H',E',h1,h2,h3,h4⟩ hb=>⟨e,c,H',E',h1,h2,J0below h3 hb,(hb.block _ (lt_of_block h4)).trans h4⟩)
  (fun i B W ⟨⟨E',h1,hB⟩,h2,h3⟩=>by subst hJ0; exact ⟨⟨h1.2.2.2.1,h1.2.2.2.2.1⟩,fun b hb=>(hB b hb).1⟩) ?_ W1 ⟨⟨E1,hJstart,fun b hb=>hb.elim⟩,hp0,hL1⟩
 ·refine callsIn_wide.2 (hcall.mono ?_)
  rintro e W2 ⟨⟨v,rfl⟩,(⟨B,⟨E',hJ,_⟩,hpre,hlp⟩ | ⟨i,_,e,c,H',E',hec,hK,hJ,hlp⟩)⟩
  ·refine ⟨none,_,by have:=run_endLoop (P:=P) hlp (by rw [hrec]; simp); rw [hrec] at this; exact this,?_⟩
   have hJ2:=J0turn (o:= .loop { rec .ready none with state:= .exhausted }) hJ hlp
   rw [hrec] at hJ2
   subst hJ0
   obtain ⟨j1,j2,_,_,_,j6⟩:=hJ2
   refine hl .normal _ _ _ (hdone hpre) ⟨E',j1,j2.1,⟨fun hc=>(by rw [hmk] at hc; cases hc),List.pairwise_cons.2 ⟨fun d hd hc=>?_,j2.2.1.2.1⟩,fun d hd=>?_⟩,j2.2.2⟩
   ·obtain ⟨D,rfl,g1,g2,g3⟩:=htr.2.1.2.2 d hd
    cases hc
    have:=lt_of_block g2
    omega
   ·rcases List.mem_cons.1 hd with rfl | hd
    ·refine ⟨_,rfl,fun n hn=>(by rw [hmk] at hn; cases hn; exact hw0),j6,?_⟩
     rintro (hx | hh)
     ·have:=(j1.x0 _ hx).1; omega
     ·exact j1.not_book j6 (.inl ⟨_,rfl⟩) hh
    ·exact j2.2.1.2.2 d hd
  ·refine ⟨some c,_,by have:=run_endLoop (P:=P) hlp (by rw [hrec]; simp); rw [hrec] at this; exact this,?_⟩
   have hJ2:=J0turn (o:= .loop { rec .done (some c) with state:= .exhausted }) hJ hlp
   rw [hrec] at hJ2
   subst hJ0
   obtain ⟨j1,j2,_,_,_,j6⟩:=hJ2
   have hst:StR w0 X0 N ⟨τ0,H'⟩ { a with defers:=[{ target:= .collected w.heap.size,args:=#[] }]++a.defers } (W2.putObj (w.heap.size+1) (.loop { state:= .exhausted,pending:=some c,fn,tmps:=a.tmps,params:=ps,assign,body,defers:=w.heap.size })):=by
    refine ⟨E',j1,j2.1,⟨fun hc=>(by rw [hmk] at hc; cases hc),List.pairwise_cons.2 ⟨fun d hd hc=>?_,j2.2.1.2.1⟩,fun d hd=>?_⟩,j2.2.2⟩
    ·obtain ⟨D,rfl,g1,g2,g3⟩:=htr.2.1.2.2 d hd
     cases hc
     have:=lt_of_block g2
     omega
    ·rcases List.mem_cons.1 hd with rfl | hd
     ·refine ⟨_,rfl,fun n hn=>(by rw [hmk] at hn; cases hn; exact hw0),j6,?_⟩
      rintro (hx | hh)
      ·have:=(j1.x0 _ hx).1; omega
      ·exact j1.not_book j6 (.inl ⟨_,rfl⟩) hh
     ·exact j2.2.1.2.2 d hd
   rcases hec with ⟨rfl,rfl⟩ | ⟨id,rfl,rfl⟩
   ·exact wpIn_ret (hl .ret _ _ _ hK hst)
   ·exact wpIn_exit (hl (.exit id) _ _ _ hK hst)
 ·
  rintro i B W args hi ⟨⟨E',hJ,hB⟩,hpre,hlp⟩ hargs
  have hv:=hround i hi hpre
  split at hv
  case h_2=>exact hv.elim
  rename_i hps
  have hps':=Nat.eq_of_beq_eq_true hps
  have hy:=run_yield (P:=P) (args:=args) hlp (by rw [hrec]; exact hargs.1.trans hps')
  rw [hrec] at hy
  refine ⟨fn,_,assign,body,hy,roundIn_of_wpIn trivial ?_⟩
  clear hy
  have hJ':=hJ
  rw [hJ0] at hJ'
  obtain ⟨j1,j2,j3,j4,j5,j6⟩:=hJ'
  have hwit:Within (fun b=>¬ B b/\(w.heap.size<=b\/X1 b)) (Xo X0 E' (st i)) W:=by
   intro b hlt hb
   refine ⟨fun hc=>(hB b hc).2.2 hb,?_⟩
   rcases Nat.lt_or_ge b w.heap.size with h1 | h1
   ·exact .inr (j3 b h1 hb)
   ·exact .inl h1
  have htm:=bindT_sound (w:=W) (X:=Xo X0 E' (st i)) (E:=E') (N:=N) ps.toList (its i) args.toList τ0 a.tmps (by rw [Array.length_toList]; exact hps'.symm) (by rw [Array.length_toList]; exact hargs.1)
   (fun k hk=>by
    have:=hargs.2 k hk
    have e1:args.toList.getD k undef=args.getD k undef:=by rw [List.getD_eq_getElem?_getD,Array.getElem?_toList,Array.getD_eq_getD_getElem?]
    rw [e1]
    exact up (this.mono (fun _ _ _=>rfl) hwit (Env.le_refl _))) j2.1 j2.2.2
  have hfold:(ps.zip args).foldl (fun t (p,v)=>t.setIfInBounds p v) a.tmps=(ps.toList.zip args.toList).foldl (fun t (p,v)=>t.setIfInBounds p v) a.tmps:=by
   rw [<-Array.foldl_toList,Array.toList_zip]
  rw [<-hfold] at htm
  refine iha (F:=Fence.wide.inRound (w.heap.size+1)) (w0:=W) (X0:=reb X0 (st i) E') (.inr ⟨rfl,_,rfl⟩) (fun hc=>(nomatch hc)) (fun k hk=>?_) _ _ _ _ hv ?_ _ W ⟨E',j1.rebase,htm.1,DefOK.nil _ _ _,htm.2⟩
  ·cases he:E' k with
   | none=>exact absurd he hk
   | some e=>exact j1.dom k e he
  rintro e s1 a1 w1 hk1 hs1
  cases e with
  | exit id=>exact hk1.elim
  | ret=>exact hk1.elim
  | normal=>
  have hvb:=hk1
  clear hk1
  simp only [assignK] at hvb
  obtain ⟨Eb,hrb,htb⟩:=hs1
  have hlp1:w1.heap[w.heap.size+1]?=some (.loop (rec .ready none)):=(hrb.below.block _ (lt_of_block hlp) (j1.not_book hlp (.inr ⟨_,rfl⟩))).trans hlp
  refine ⟨_,run_beginRound hlp1 (by rw [hrec]),?_⟩
  have hkc:KeepC w1 (w1.putObj (w.heap.size+1) (.loop { rec .ready none with state:= .busy })):=KeepC.putObj hlp1 (.inr ⟨_,rfl⟩)
  have hr2:=hrb.turnBoth (o:= .loop { rec .ready none with state:= .busy }) hlp hlp1
  have hJ2:=J0turn (o:= .loop { rec .ready none with state:= .busy }) hJ hlp
  have hlp2:(W.putObj (w.heap.size+1) (.loop { rec .ready none with state:= .busy })).heap[w.heap.size+1]?=some (.loop { rec .ready none with state:= .busy }):=World.putObj_heap_same (lt_of_block hlp)
  have hsz2:(W.putObj (w.heap.size+1) (.loop { rec .ready none with state:= .busy })).heap.size=W.heap.size:=World.putObj_size
  generalize hw2:W.putObj (w.heap.size+1) (.loop { rec .ready none with state:= .busy })=W2 at hJ2 hr2 hlp2 hsz2
  have hJ2':=hJ2
  rw [hJ0] at hJ2'
  obtain ⟨i1,i2,i3,i4,i5,i6⟩:=hJ2'
  refine wpIn_mono (ihb (F:=Fence.wide.inRound (w.heap.size+1)) (w0:=W2) (X0:=reb X0 (st i) E') (Q:=fun e a3 w3=>∃ e' s',e=SExit.lift e'/\iterK m τ0 pre st i K e' s'/\StR W2 (reb X0 (st i) E') N s' a3 w3) (.inr ⟨rfl,_,rfl⟩) (fun hc=>(nomatch hc)) (fun k hk=>?_) _ _ _ hvb (fun e s' a3 w3 h1 h2=>⟨e,s',rfl,h1,h2⟩) a1 _ ⟨Eb,hr2,htb.1,by rw [htb.2.1.1 rfl]; exact DefOK.nil _ _ _,fun t ht=>(htb.2.2 t ht).turn hkc⟩) ?_
  ·cases he:E' k with
   | none=>exact absurd he hk
   | some e=>exact i1.dom k e he
  rintro e a3 w3 ⟨e',s',rfl,hk',E3,hr3,ht3⟩
  have hl3:w3.heap[w.heap.size+1]?=some (.loop { rec .ready none with state:= .busy }):=(hr3.below.block _ (lt_of_block hlp2) (i1.not_book hlp2 (.inr ⟨_,rfl⟩))).trans hlp2
  have fin:∀ (jump:Option Code),(Instr.endRound (w.heap.size+1) jump).run P w3 = .ok (.bool jump.isNone) (w3.putObj (w.heap.size+1) (.loop (rec (if jump.isNone then .ready else .done) jump)))/\
    (w3.putObj (w.heap.size+1) (.loop (rec (if jump.isNone then .ready else .done) jump))).heap[w.heap.size+1]?=some (.loop (rec (if jump.isNone then .ready else .done) jump)):=fun jump=>by
   have:=run_endRound (P:=P) jump hl3
   rw [hrec] at this ⊢
   exact ⟨this,World.putObj_heap_same (lt_of_block hl3)⟩
  cases e' with
  | normal=>
   obtain ⟨hm3,⟨hp3⟩,hn3⟩:=hk'
   obtain ⟨hr,hl4⟩:=fin none
   have hs3:=J0step hJ2 hr3 hm3
   have hs4:=hs3
   rw [hJ0] at hs4
   obtain ⟨u1,u2,u3,u4⟩:=i1.unbase hr3 hnm hm3
   obtain ⟨_,hx4⟩:=hs4.1.le hn3.get.2.2 hnm hn3.get.1
   refine ⟨_,_,hr,.inl ⟨rfl,⟨⟨_,J0turn (J0le hs3 hn3.get.1 hn3.get.2) hl3,fun b hb=>?_⟩,hp3,hl4⟩,fun b hb=>?_⟩⟩
   ·obtain ⟨b1,b2,b3⟩:=hB b hb
    exact ⟨by rw [World.putObj_size]; exact Nat.lt_of_lt_of_le b1 (by rw [<-hsz2]; exact hr3.below.size),b2,fun hc=>b3 (u2 b (by rw [hsz2]; exact b1) (hx4 b hc))⟩
   ·obtain ⟨b1,b2,b3⟩:=hB b hb
    refine (World.putObj_heap_other b2).trans ((u3 b (by rw [hsz2]; exact b1) b3).trans ?_)
    rw [<-hw2]
    exact World.putObj_heap_other b2
  | ret=>
   obtain ⟨hm3,hk3⟩:=hk'
   obtain ⟨hr,hl4⟩:=fin (some .ret)
   exact ⟨_,_,hr,.inr ⟨rfl,.ret,.ret,s'.H,E3,.inl ⟨rfl,rfl⟩,hk3,J0turn (J0step hJ2 hr3 hm3) hl3,hl4⟩⟩
  | exit id=>
   obtain ⟨hm3,hk3⟩:=hk'
   obtain ⟨hr,hl4⟩:=fin (some (.exit id))
   exact ⟨_,_,hr,.inr ⟨rfl,.exit id,.exit id,s'.H,E3,.inr ⟨id,rfl,rfl⟩,hk3,J0turn (J0step hJ2 hr3 hm3) hl3,hl4⟩⟩
theorem tr_app {w0:World}{X0:Fr}(hspecs:∀ s∈specs,SpecAt P w0 X0 s) (heqs:∀ t n,(t,n)∈eqs->EqOK P t n) {ops:Array Oper}{F:Fence}{nn:Nat}(hF:Wd F) {Q:Exit->Act->World->Prop}{l2:List Oper} :
  ∀ {l:List Oper}{s s':St},Tr P specs eqs N ops l s s'->(∀ a w,StR w0 X0 N s' a w->wpListIn F nn P ops Q l2 a w)->∀ a w,StR w0 X0 N s a w->wpListIn F nn P ops Q (l++l2) a w:=by
 intro l s s' ht hq
 induction ht with
 | nil=>exact fun a w h=>hq a w h
 | cons hs _ ih=>
  intro a w h
  obtain ⟨E,hrep,htr⟩:=id h
  simp only [wpListIn,List.cons_append]
  cases hs with
  | run hw hy hask hv hv2 hv3 hv4=>
   rw [if_pos (hw.wanted htr)]
   exact run_sound hspecs heqs h hy hask hv F nn hF _ _ fun v w' hg=>ih hq _ _ hg
  | skip hw=>
   rw [if_neg (by rw [hw.wanted htr]; simp)]
   exact ⟨fun f _=>hF.fn f,ih hq _ _ (skip_sound h _)⟩
theorem news_sound {w0:World}{X0:Fr}(hspecs:∀ s∈specs,SpecAt P w0 X0 s) (heqs:∀ t n,(t,n)∈eqs->EqOK P t n) {ops:Array Oper}{F:Fence}{nn:Nat}(hF:Wd F) {Q:Exit->Act->World->Prop}{q:Nat}{ns:NSpec}{K:St->Prop}{s:St}
  (h:vcNews P specs eqs N ops q ns K s) {id:Nat}{a:Act}{w:World}(hs:StR w0 X0 N s a w) (hq:∀ s' a' w',K s'->StR w0 X0 N s' a' w'->Q .normal a' w'):(Code.region id ops false).wpIn F nn P Q a w:=by
 unfold vcNews at h
 obtain ⟨s1,ht,hk⟩:=vcOps_tr h
 split at hk
 case h_2=>exact hk.elim
 rename_i o hoq
 split at hk
 ·exact hk.elim
 rename_i hgd
 split at hk
 case h_2=>exact hk.elim
 rename_i c hop
 split at hk
 case h_2=>exact hk.elim
 rename_i x hcal
 split at hk
 case h_2=>exact hk.elim
 rename_i G n g hev
 split at hk
 case h_2=>exact hk.elim
 rename_i hbeq
 split at hk
 case h_2=>exact hk.elim
 rename_i r hrun
 obtain ⟨hN,hp,hrest⟩:=hk
 obtain ⟨s',ht2,hK⟩:=vcOps_tr hrest
 have hql:q<ops.size:=(Array.getElem?_eq_some_iff.1 hoq).1
 have hdrop:ops.toList.drop q=o::ops.toList.drop (q+1):=by
  rw [List.drop_eq_getElem_cons (by rw [Array.length_toList]; exact hql),Array.getElem_toList]
  congr 1
  exact (Array.getElem?_eq_some_iff.1 hoq).2
 have hall:=tr_app hspecs heqs hF (nn:=nn) (Q:=Q) (l2:=ops.toList.drop q) ht (fun a1 w1 hs1=>by
  rw [hdrop]
  obtain ⟨E,hrep,htr⟩:=hs1
  have hw:Region.wanted o (yielded ops a1.tmps)=true:=by simp [Region.wanted,hgd]
  simp only [wpListIn]
  rw [if_pos hw]
  have hargs:=args_sound htr c.args
  obtain ⟨vs,hv,hsz,hr⟩:=fn_inv (hev▸evO_sound htr x)
  have hG:ns.f=G:=Nat.eq_of_beq_eq_true hbeq
  have hcall:=hN.ok _ r.1 r.2.1 r.2.2 hrun hp w0 X0 s1.H E w1 hrep _ (args_append hargs hsz hr)
  have hopk:OpOK P o a1 w1 (fun v w'=>GoesL w0 X0 s1.H E w1 (r.2.2 s1.H.length) (r.2.1 s1.H.length) v w'):=by
   refine opOK_call (f:=ns.f) ?_ hcall
   obtain ⟨cc,ca,ct⟩:=c
   simp only at hcal
   subst hcal
   simp only [execOp,hop,resolve,Sem.run_bind,Sem.run_pure,Result.andThen_ok,hv,Deferred.ofValue,invoke,Array.empty_append]
   rw [<-hG]
   exact hN.ent _ _
  refine hopk F nn hF _ _ fun v w' hg=>?_
  obtain ⟨E',le,hk',hx,hrep',hR⟩:=hg
  exact tr_seq hspecs heqs hF ht2 (fun a' w' hs'=>hq s' a' w' hK hs') _ _ ⟨E',hrep',(htr.mono hk' hx le).put hR⟩) a w hs
 rw [List.take_append_drop] at hall
 exact wpIn_region_list hall
theorem opsOf_or (A:Ann) (id:Nat) (ops:Array Oper) (d:Bool):opsOf A id ops d=ops\/d=true/\∃ l,PermOK l ops/\opsOf A id ops d=permOps l ops:=by
 unfold opsOf
 split
 ·exact .inl rfl
 ·split
  ·split
   ·rename_i l hf _ hp
    exact .inr ⟨rfl,l,permB_spec hp,rfl⟩
   ·exact .inl rfl
  ·exact .inl rfl
def noRF:Code->Bool
 | .seq x y=>noRF x&&noRF y
 | .cond _ x y=>noRF x&&noRF y
 | .block _ c=>noRF c
 | .loop c=>noRF c
 | .scope c=>noRF c
 | .rangeFunc ..=>false
 | _=>true
theorem orL {A:Prop}{a b:Bool}(h:A\/(a&&b)=true):A\/a=true:=h.imp id fun h=>(Bool.and_eq_true _ _▸h:a=true/\b=true).1
theorem orR {A:Prop}{a b:Bool}(h:A\/(a&&b)=true):A\/b=true:=h.imp id fun h=>(Bool.and_eq_true _ _▸h:a=true/\b=true).2
theorem vc_soundG {Γ:World->Fr->Prop}(hspecs:∀ w0 X0,Γ w0 X0->∀ s∈specs,SpecAt P w0 X0 s) (heqs:∀ t n,(t,n)∈eqs->EqOK P t n) (hm:P.follows .mixedOrders=true) :
  ∀ (c:Code),((∀ w0 X0,Γ w0 X0)\/noRF c=true)->∀ {w0:World}{X0:Fr}{m:Nat}{r:Bool}{F:Fence}{n:Nat}(_:Γ w0 X0) (_:FrOK r F) (_:r=false->X0.marks=true) (_:∀ k,X0.nm k≠none->k<m) (A:Ann) (K:SK) (Q:Exit->Act->World->Prop) (s:St),vc P specs eqs N m r A c K s->Lifts w0 X0 N K Q->∀ a w,StR w0 X0 N s a w->c.wpIn F n P Q a w:=by
 intro c
 induction c with
 | skip=>intro hN w0 X0 m r F nn hΓ hF hmk hnm _ K Q s h hl a w hs; exact wpIn_skip (hl .normal s a w h hs)
 | label l=>intro hN w0 X0 m r F nn hΓ hF hmk hnm _ K Q s h hl a w hs; exact wpIn_label (hl .normal s a w h hs)
 | region id ops d=>
  intro hN w0 X0 m r F nn hΓ hF hmk hnm A K Q s h hl a w hs
  simp only [vc] at h
  have post:∀ {a':Act}{w':World}{s':St},vcPost m N (K .normal) s' (findP A.preps (1000000+id))->StR w0 X0 N s' a' w'->Q .normal a' w':=by
   intro a' w' s' hK hs'
   revert hK
   cases findP A.preps (1000000+id) with
   | nil=>exact fun hK=>hl .normal s' a' w' hK hs'
   | cons p r=>
    intro hK
    simp only [vcPost] at hK
    split at hK
    case h_2=>exact hK.elim
    rename_i s2 hp
    exact hl .normal s2 a' w' hK (doPreps_sound hnm hp hs')
  have go:∀ {l:List PrepA}{s:St},(match doPreps m N s l with
    | some s'=>vcGo P specs eqs N (opsOf A id ops d) d (fun s=>vcPost m N (K .normal) s (findP A.preps (1000000+id))) s'
    | none=>False)->StR w0 X0 N s a w->(Code.region id ops d).wpIn F nn P Q a w:=by
   intro l s h hs
   split at h
   case h_2=>exact h.elim
   rename_i s1 hp
   unfold vcGo at h
   split at h
   ·obtain ⟨s',ht,hK⟩:=vcOps_tr h
    split at hK
    case h_2=>exact hK.elim
    rename_i hR
    exact region_sound (hspecs w0 X0 hΓ) heqs hm (opsOf_or A id ops _) hF.wd ht (fun _=>hR) (fun a' w' hs'=>post hK hs') (doPreps_sound hnm hp hs)
   ·obtain ⟨s',ht,hK⟩:=vcOps_tr h
    exact region_sound (hspecs w0 X0 hΓ) heqs hm (opsOf_or A id ops _) hF.wd ht (fun hd=>by cases hd) (fun a' w' hs'=>post hK hs') (doPreps_sound hnm hp hs)
  simp only [vcReg] at h
  split at h
  ·split at h
   ·exact h.elim
   ·exact news_sound (hspecs w0 X0 hΓ) heqs hF.wd h hs (fun s' a' w' hK hs'=>post hK hs')
  split at h
  ·split at h
   case h_2=>exact h.elim
   rename_i q hq
   rcases nilAlt_sound hq hs with ⟨h0,hs1⟩ | hs2
   ·exact go (h.1 h0) hs1
   ·exact go h.2 hs2
  ·exact go h hs
 | seq x y ihx ihy=>
  intro hN w0 X0 m r F nn hΓ hF hmk hnm A K Q s h hl a w hs
  simp only [vc] at h
  split at h
  ·refine wpIn_seq (ihx (orL hN) hΓ hF hmk hnm A _ _ s h (fun e s' a' w' hk hs'=>?_) a w hs)
   cases e with
   | normal=>exact ihy (orR hN) hΓ hF hmk hnm A K Q s' hk hl a' w' hs'
   | exit id=>exact hl _ s' a' w' hk hs'
   | ret=>exact hl _ s' a' w' hk hs'
  ·rename_i I hI
   refine wpIn_seq (ihx (orL hN) hΓ hF hmk hnm A _ _ s h.1 (fun e s' a' w' hk hs'=>?_) a w hs)
   cases e with
   | normal=>
    obtain ⟨g,hg,hs2⟩:=meets_sound hnm hk hs'
    exact ihy (orR hN) hΓ hF hmk hnm A K Q _ (h.2 g hg) hl a' w' hs2
   | exit id=>exact hl _ s' a' w' hk hs'
   | ret=>exact hl _ s' a' w' hk hs'
 | cond c x y ihx ihy=>
  intro hN w0 X0 m r F nn hΓ hF hmk hnm A K Q s h hl a w hs
  simp only [vc] at h
  obtain ⟨E,hrep,htr⟩:=id hs
  split at h
  ·rename_i b hb
   have hv:=bool_inv (hb▸evO_sound htr c)
   cases b with
   | true=>exact wpIn_cond_true hv (ihx (orL hN) hΓ hF hmk hnm A K Q s h hl a w hs)
   | false=>exact wpIn_cond_false hv (ihy (orR hN) hΓ hF hmk hnm A K Q s h hl a w hs)
  ·rename_i b hb
   have hv:=lit_inv (hb▸evO_sound htr c)
   cases b with
   | true=>exact wpIn_cond_true hv (ihx (orL hN) hΓ hF hmk hnm A K Q s h hl a w hs)
   | false=>exact wpIn_cond_false hv (ihy (orR hN) hΓ hF hmk hnm A K Q s h hl a w hs)
  ·exact h.elim
 | block id c ih=>
  intro hN w0 X0 m r F nn hΓ hF hmk hnm A K Q s h hl a w hs
  refine wpIn_block (ih hN hΓ hF hmk hnm A _ _ s h (fun e s' a' w' hk hs'=>?_) a w hs)
  cases e with
  | normal=>exact hl _ s' a' w' hk hs'
  | exit i=>
   simp only [blockK] at hk
   simp only [SExit.lift,Exit.inBlock]
   split
   ·rename_i hi; rw [if_pos hi] at hk; exact hl .normal s' a' w' hk hs'
   ·rename_i hi; rw [if_neg hi] at hk; exact hl (.exit i) s' a' w' hk hs'
  | ret=>exact hl _ s' a' w' hk hs'
 | loop c ih=>
  intro hN w0 X0 m r F nn hΓ hF hmk hnm A K Q s h hl a w hs
  simp only [vc] at h
  split at h
  case h_2=>exact h.elim
  split at h
  case h_5=>exact h.elim
  ·rename_i I hI
   obtain ⟨⟨g0,⟨hp0⟩,hs0⟩,hround⟩:=h
   refine wpIn_loop_ghost (fun n a w=>∃ g,I.pre g/\I.meas g=n/\StR w0 X0 N (I.st g) a w) (I.meas g0) ⟨g0,hp0,rfl,hs.le hnm hs0.get.1 hs0.get.2⟩ ?_
   rintro n a w ⟨g,hp,rfl,hsg⟩
   refine ih hN hΓ hF hmk hnm A _ _ (I.st g) (hround g hp) (fun e s' a' w' hk hs'=>?_) a w hsg
   cases e with
   | normal=>
    obtain ⟨g',⟨hp'⟩,hle⟩:=hk
    obtain ⟨hle1,hle2,⟨hlt⟩⟩:=hle.get
    exact ⟨_,hlt,g',hp',rfl,hs'.le hnm hle1 hle2⟩
   | exit id=>exact hl _ s' a' w' hk hs'
   | ret=>exact hl _ s' a' w' hk hs'
  ·rename_i I sub hI
   obtain ⟨⟨g0,⟨hp0⟩,hs0⟩,hround⟩:=h
   refine wpIn_loop_ghost (fun n a w=>∃ g,I.pre g/\I.meas g=n/\StR w0 X0 N (I.st g) a w) (I.meas g0) ⟨g0,hp0,rfl,hs.le hnm hs0.get.1 hs0.get.2⟩ ?_
   rintro n a w ⟨g,hp,rfl,hsg⟩
   refine ih hN hΓ hF hmk hnm _ _ _ (I.st g) (hround g hp) (fun e s' a' w' hk hs'=>?_) a w hsg
   cases e with
   | normal=>
    obtain ⟨g',⟨hp'⟩,hle⟩:=hk
    obtain ⟨hle1,hle2,⟨hlt⟩⟩:=hle.get
    exact ⟨_,hlt,g',hp',rfl,hs'.le hnm hle1 hle2⟩
   | exit id=>exact hl _ s' a' w' hk hs'
   | ret=>exact hl _ s' a' w' hk hs'
  ·rename_i n hn
   refine wpIn_loop_rounds n ?_
   clear hn
   induction n generalizing s a w with
   | zero=>exact h.elim
   | succ n ihn=>
    rw [roundsIn_succ]
    refine ih hN hΓ hF hmk hnm A _ _ s h (fun e s' a' w' hk hs'=>?_) a w hs
    cases e with
    | normal=>exact ihn s' a' w' hs' hk
    | exit id=>exact hl _ s' a' w' hk hs'
    | ret=>exact hl _ s' a' w' hk hs'
  ·rename_i n I sub hn
   refine wpIn_loop_rounds n ?_
   clear hn
   generalize 0=k at h
   induction n generalizing s a w k with
   | zero=>exact h.elim
   | succ n ihn=>
    rw [roundsIn_succ]
    obtain ⟨hW,h⟩:=h
    refine ih hN hΓ hF hmk hnm _ _ _ (I k) h (fun e s' a' w' hk hs'=>?_) a w (hs.le hnm hW.get.1 hW.get.2)
    cases e with
    | normal=>exact ihn s' a' w' hs' (k+1) hk
    | exit id=>exact hl _ s' a' w' hk hs'
    | ret=>exact hl _ s' a' w' hk hs'
 | rangeFunc g ps assign body iha ihb=>
  intro hN w0 X0 m r F nn hΓ hF hmk hnm A K Q s h hl a w hs
  rcases hN with hN | hN
  ·exact iter_sound heqs hm (fun {w0 X0}=>iha (.inl hN) (hN w0 X0)) (fun {w0 X0}=>ihb (.inl hN) (hN w0 X0)) hF hmk hnm h hl hs
  ·cases hN
 | exit id=>intro hN w0 X0 m r F nn hΓ hF hmk hnm _ K Q s h hl a w hs; exact wpIn_exit (hl (.exit id) s a w h hs)
 | ret=>intro hN w0 X0 m r F nn hΓ hF hmk hnm _ K Q s h hl a w hs; exact wpIn_ret (hl .ret s a w h hs)
 | _=>intro hN w0 X0 m r F nn hΓ hF hmk hnm _ K Q s h; exact h.elim
theorem vc_sound (hspecs:∀ s∈specs,SpecOK P s) (heqs:∀ t n,(t,n)∈eqs->EqOK P t n) (hm:P.follows .mixedOrders=true) (c:Code) {w0:World}{X0:Fr}{m:Nat}{r:Bool}{F:Fence}{n:Nat}(hF:FrOK r F) (hmk:r=false->X0.marks=true) (hnm:∀ k,X0.nm k≠none->k<m) (A:Ann) (K:SK) (Q:Exit->Act->World->Prop) (s:St) (h:vc P specs eqs N m r A c K s) (hl:Lifts w0 X0 N K Q) (a:Act) (w:World) (hs:StR w0 X0 N s a w):c.wpIn F n P Q a w:=
 vc_soundG (Γ:=fun _ _=>True) (fun w0 X0 _ s hs=>(hspecs s hs).at w0 X0) heqs hm c (.inl fun _ _=>trivial) trivial hF hmk hnm A K Q s h hl a w hs
end
def resS (P:Program) (N:Nat) (s:St):List ResultVar->Option (Prop×List SV)
 | []=>some (True,[])
 | .tmp t::r=>match resS P N s r with
  | some (p,l)=>some (p,evO N s.τ (.tmp t)::l)
  | none=>none
 | .cell a T::r=>match tinf P T with
  | some ti=>match evLoad ti s.H (evO N s.τ (.tmp a)) with
   | some y=>match resS P N s r with
    | some (p,l)=>some (y.ask/\p,y.val::l)
    | none=>none
   | none=>none
  | none=>none
def oneOf:List SV->SV
 | [s]=>s
 | l=> .tup l.length (fun i=>l.getD i .any)
def vcRes (P:Program) (fn:Func) (res:SV) (s:St):Prop:=
 match resS P fn.ntmps s fn.results.toList with
 | some (p,l)=>p/\match frzAll s.H (needs s.H 6 (oneOf l)) with
  | some fl=>match pur (applyS s.H fl) 6 (oneOf l) with
   | some v=>SVle [] [] v res
   | none=>False
  | none=>False
 | none=>False
def retK (P:Program) (fn:Func) (res:SV):SK
 | .exit _,_=>False
 | _,s=>vcRes P fn res s
def argsT:Nat->List SV->Tmps
 | _,[]=>[]
 | i,s::r=>(i,s)::argsT (i+1) r
theorem lookT_args:∀ (l:List SV) (i t:Nat),i<=t->lookT (argsT i l) t=l.getD (t-i) .any
 | [],i,t,_=>by simp [argsT,lookT]
 | s::r,i,t,h=>by
  simp only [argsT,lookT]
  split
  ·rename_i he; subst he; simp
  ·rw [lookT_args r (i+1) t (by omega),show t-i=(t-(i+1))+1 by omega,List.getD_cons_succ]
def resSem (tmps:Array Value):ResultVar->Sem Value
 | .tmp t=>pure (tmps.getD t undef)
 | .cell c t=>do loadVar t (← asAddr (tmps.getD c undef))
theorem results_eq (fn:Func) (tmps:Array Value):results fn tmps=(fn.results.mapM (resSem tmps) >>= fun vs=>pure (if h:vs.size=1 then vs[0] else .tuple vs)):=by
 unfold results
 congr 1
theorem resS_sound {P:Program}{n0 w0 X0 H E w N τ a} (h:Rep w0 X0 H E w) (ht:TR n0 w (Xo X0 E H) E N τ a):∀ (rs:List ResultVar) (p:Prop) (l:List SV),resS P N ⟨τ,H⟩ rs=some (p,l)->p->
  ∃ vs:List Value,(rs.mapM (resSem a.tmps)).run P w = .ok vs w/\vs.length=l.length/\∀ i,i<l.length->R w (Xo X0 E H) E (l.getD i .any) (vs.getD i undef)
 | [],p,l,hr,_=>by
  simp only [resS,Option.some.injEq,Prod.mk.injEq] at hr
  obtain ⟨rfl,rfl⟩:=hr
  exact ⟨[],by simp,rfl,fun i hi=>absurd hi (Nat.not_lt_zero _)⟩
 | .tmp t::r,p,l,hr,hp=>by
  simp only [resS] at hr
  split at hr
  case h_2=>cases hr
  rename_i p' l' hr'
  simp only [Option.some.injEq,Prod.mk.injEq] at hr
  obtain ⟨rfl,rfl⟩:=hr
  obtain ⟨vs,h1,h2,h3⟩:=resS_sound h ht r p' l' hr' hp
  refine ⟨a.tmps.getD t undef::vs,by simp only [List.mapM_cons,resSem,Sem.run_bind,Sem.run_pure,Result.andThen_ok,h1],by simp [h2],fun i hi=>?_⟩
  cases i with
  | zero=>exact evO_sound ht (.tmp t)
  | succ i=>exact h3 i (by simpa using hi)
 | .cell c T::r,p,l,hr,hp=>by
  simp only [resS] at hr
  split at hr
  case h_2=>cases hr
  rename_i ti hti
  split at hr
  case h_2=>cases hr
  rename_i y hy
  split at hr
  case h_2=>cases hr
  rename_i p' l' hr'
  simp only [Option.some.injEq,Prod.mk.injEq] at hr
  obtain ⟨rfl,rfl⟩:=hr
  obtain ⟨vs,h1,h2,h3⟩:=resS_sound h ht r p' l' hr' hp.2
  obtain ⟨ad,u,g1,g2,g3,g4⟩:=evLoad_run (P:=P) h hti (evO_sound ht (.tmp c)) hy hp.1
  have g1':a.tmps.getD c undef = .pointer (some ad):=g1
  refine ⟨u::vs,by simp only [List.mapM_cons,resSem,g1',asAddr,Sem.run_bind,Sem.run_pure,Result.andThen_ok,g2,h1],by simp [h2],fun i hi=>?_⟩
  cases i with
  | zero=>exact g4
  | succ i=>exact h3 i (by simpa using hi)
def mkSpec (f:FuncId) {γ:Type}(dec:List SV->Option γ) (args:γ->List SV) (pre:γ->Prop) (res:γ->SV):FSpec:=
 ⟨f,false,fun l _ _=>match l.all (isPure 6) with
  | true=>match dec l with
   | some g=>some ⟨leArgs l (args g)/\Ask (pre g),res g,.keep⟩
   | none=>none
  | false=>none⟩
where leArgs:List SV->List SV->Prop
 | [],[]=>True
 | s::l,t::r=>SVle [] [] s t/\leArgs l r
 | _,_=>False
theorem leArgs_get:∀ {l r:List SV},mkSpec.leArgs l r->l.length=r.length/\∀ i,i<r.length->SVle [] [] (l.getD i .any) (r.getD i .any)
 | [],[],_=>⟨rfl,fun i hi=>absurd hi (Nat.not_lt_zero _)⟩
 | [],_::_,h=>h.elim
 | _::_,[],h=>h.elim
 | s::l,t::r,h=>by
  obtain ⟨h1,h2⟩:=h
  obtain ⟨h3,h4⟩:=leArgs_get h2
  refine ⟨by simp [h3],fun i hi=>?_⟩
  cases i with
  | zero=>exact h1
  | succ i=>exact h4 i (by simpa using hi)
theorem pureR {w:World}{X X':Nat->Prop}(hx:∀ b,X' b->X b) {s t:SV}{v:Value}(hl:SVle [] [] s t) (hr:R w X E0 s v):R w X' E0 t v:=by
 have:=SVle_sound (H:=[]) (H':=[]) hx (E:=E0) (fun k ver v us h=>by cases h) hl hr
 rwa [E0_cut] at this
theorem args_pure {w X E} {ss:List SV}{vs:Array Value}(h:ArgsR w X E ss vs) (hp:ss.all (isPure 6)=true):∀ i,i<ss.length->R w X E0 (ss.getD i .any) (vs.getD i undef):=fun i hi=>by
 refine isPure_sound 6 _ _ ?_ (h.2 i hi)
 rw [List.getD_eq_getElem?_getD,List.getElem?_eq_getElem hi]
 exact List.all_eq_true.1 hp _ (List.getElem_mem hi)
structure GOK (Γ:World->Fr->Prop):Prop where
 next:∀ {w0 X0 H E w X},Γ w0 X0->Rep w0 X0 H E w->Γ w (Fr.of X)
def SpecG (Γ:World->Fr->Prop) (P:Program) (s:FSpec):Prop:=∀ w0 X0,Γ w0 X0->SpecAt P w0 X0 s
theorem SpecOK.g {Γ:World->Fr->Prop}{P:Program}{s:FSpec}(h:SpecOK P s):SpecG Γ P s:=fun w0 X0 _=>h.at w0 X0
theorem specOK_of_at {P:Program}{s:FSpec}(h:∀ w0 X0,SpecAt P w0 X0 s):SpecOK P s:=
 ⟨(h default (Fr.of fun _=>False)).1,(h default (Fr.of fun _=>False)).2.1,fun args H nm y hr ha w0 X0 E w hrep hf vals hA=>(h w0 X0).2.2 args H nm y hr ha E w hrep hf vals hA⟩
def topG:World->Fr->Prop:=fun _ _=>True
theorem topG_ok:GOK topG:=⟨fun _ _=>trivial⟩
theorem specG_of {Γ:World->Fr->Prop}(hG:GOK Γ) {P:Program}{f:FuncId}{γ:Type}{dec:List SV->Option γ}{args:γ->List SV}{pre:γ->Prop}{res:γ->SV}(hent:∀ args w,(callFunc f args).run P w = .ok (.enter f args) w)
  (h:∀ g,pre g->∀ (vals:Array Value) (w:World) (X:Nat->Prop),vals.size=(args g).length->(∀ i,i<(args g).length->R w X E0 ((args g).getD i .any) (vals.getD i undef))->(∀ b,X b->b<w.heap.size)->Γ w (Fr.of X)->
   Calls P f vals w fun e w'=>∃ v,e = .returned v/\R w' X E0 (res g) v/\Below w.heap.size w w'):SpecG Γ P (mkSpec f dec args pre res):=by
 refine fun w0 X0 hΓ=>⟨hent,fun args H HF nm y _ _ h=>h,fun l H nm y hrun hp E w hrep hf vals ha=>?_⟩
 simp only [mkSpec] at hrun
 split at hrun
 case h_2=>cases hrun
 rename_i hpu
 split at hrun
 case h_2=>cases hrun
 rename_i g hdec
 cases hrun
 obtain ⟨hle,⟨hpre⟩⟩:=hp
 obtain ⟨hll,hle⟩:=leArgs_get hle
 have hr:=args_pure ha hpu
 have hsz:=ha.1
 refine (h g hpre vals w (Xo X0 E H) (by omega) (fun i hi=>pureR (fun _ hb=>hb) (hle i hi) (hr i (by omega))) hrep.xlt (hG.next hΓ hrep)).mono ?_
 rintro e w' ⟨v,rfl,h1,h2⟩
 exact ⟨v,rfl,Goes.world hrep h2 (up h1)⟩
theorem specOK_of {P:Program}{f:FuncId}{γ:Type}{dec:List SV->Option γ}{args:γ->List SV}{pre:γ->Prop}{res:γ->SV}(hent:∀ args w,(callFunc f args).run P w = .ok (.enter f args) w)
  (h:∀ g,pre g->∀ (vals:Array Value) (w:World) (X:Nat->Prop),vals.size=(args g).length->(∀ i,i<(args g).length->R w X E0 ((args g).getD i .any) (vals.getD i undef))->(∀ b,X b->b<w.heap.size)->
   Calls P f vals w fun e w'=>∃ v,e = .returned v/\R w' X E0 (res g) v/\Below w.heap.size w w'):SpecOK P (mkSpec f dec args pre res):=
 specOK_of_at fun w0 X0=>specG_of topG_ok hent (fun g hp vals w X hs hr hX _=>h g hp vals w X hs hr hX) w0 X0 trivial
theorem argsT_look (N:Nat) (vals:Array Value) (l:List SV) (w:World) (X:Nat->Prop) (E:Env) (hsz:vals.size=l.length) (hlen:l.length<=N) (hr:∀ i,i<l.length->R w X E (l.getD i .any) (vals.getD i undef)) :
  (vals++Array.replicate (N-vals.size) undef).size=N/\∀ t,t<N->R w X E (lookT (argsT 0 l) t) ((vals++Array.replicate (N-vals.size) undef).getD t undef):=by
 refine ⟨by simp only [Array.size_append,Array.size_replicate]; omega,fun t ht=>?_⟩
 rw [lookT_args _ _ _ (Nat.zero_le _),Nat.sub_zero]
 by_cases hlt:t<l.length
 ·have e1:(vals++Array.replicate (N-vals.size) undef).getD t undef=vals.getD t undef:=by
   rw [Array.getD_eq_getD_getElem?,Array.getElem?_append_left (by omega),Array.getD_eq_getD_getElem?]
  rw [e1]
  exact hr t hlt
 ·rw [List.getD_eq_getElem?_getD,List.getElem?_eq_none (Nat.not_lt.1 hlt)]
  exact .any
theorem results_sound {P:Program}{n0 w0 X0 H E w N τ a} {fn:Func}(hN:N=fn.ntmps) (hrep:Rep w0 X0 H E w) (htr:TR n0 w (Xo X0 E H) E N τ a) {p:Prop}{l:List SV}(hres:resS P fn.ntmps ⟨τ,H⟩ fn.results.toList=some (p,l)) (hp:p) :
  ∃ v,(results fn a.tmps).run P w = .ok v w/\R w (Xo X0 E H) E (oneOf l) v:=by
 subst hN
 obtain ⟨vs,h1,h2,h3⟩:=resS_sound (P:=P) hrep htr _ _ _ hres hp
 have hrun:(results fn a.tmps).run P w = .ok (if hh:vs.toArray.size=1 then vs.toArray[0] else .tuple vs.toArray) w:=by
  rw [results_eq,Array.mapM_eq_mapM_toList (m:=Sem)]
  simp only [bind_map_left,Sem.run_bind,h1,Result.andThen_ok,Sem.run_pure]
 refine ⟨_,hrun,?_⟩
 match l,vs,h2,h3 with
 | [s1],[v1],_,h3=>exact h3 0 (by simp)
 | [],[],_,h3=>exact .tup rfl fun i hi=>absurd hi (Nat.not_lt_zero _)
 | s1::s2::l,v1::v2::vs,h2,h3=>
  rw [dif_neg (by simp)]
  refine .tup (by simpa using h2) fun i hi=>?_
  have:=h3 i hi
  simpa [Array.getD_eq_getD_getElem?,List.getD_eq_getElem?_getD] using this
theorem LeavesInM.taken {P:Program}{fn:Func}{R:Ending->World->Prop}{w0 X0 N s} {tmps:Array Value}(G:∀ (a:Act) (w:World),a.tmps=tmps->a.defers=[]->StR w0 X0 N s a w->∃ v,(results fn a.tmps).run P w = .ok v w/\R (.returned v) w) :
  ∀ (ds:List Deferred) (a:Act) (w:World),a.tmps=tmps->a.defers=ds->StR w0 X0 N s a w->LeavesInM Fence.wide 0 P fn tmps R ds .returning w
 | [],a,w,ht,hd,hs=>by
  obtain ⟨v,h1,h2⟩:=G a w ht hd hs
  rw [ht] at h1
  exact ⟨v,h1,h2⟩
 | d::ds,a,w,ht,hd,hs=>by
  obtain ⟨E,hrep,htr⟩:=hs
  obtain ⟨hno,hp,hall⟩:=htr.2.1
  rw [hd] at hno hp hall
  have hmk:X0.n0 w0=some w0.heap.size:=by
   unfold Fr.n0 at hno ⊢
   split at hno
   ·rfl
   ·cases hno rfl
  obtain ⟨D,rfl,h1,h2,h3⟩:=hall d List.mem_cons_self
  refine ⟨by simp,.inl ⟨D,_,rfl,run_takeDeferred h2,?_⟩⟩
  refine LeavesInM.taken G ds { a with defers:=ds } _ ht rfl ⟨E,hrep.turn (h1 _ hmk) h2 (.inl ⟨_,rfl⟩),htr.1,⟨fun hc=>(by rw [hmk] at hc; cases hc),(List.pairwise_cons.1 hp).2,fun d' hd'=>?_⟩,fun t ht'=>(htr.2.2 t ht').turn (KeepC.putObj h2 (.inl ⟨_,rfl⟩))⟩
  obtain ⟨D',rfl,g1,g2,g3⟩:=hall d' (List.mem_cons_of_mem _ hd')
  refine ⟨D',rfl,g1,(World.putObj_heap_other fun hc=>?_).trans g2,g3⟩
  subst hc
  exact (List.pairwise_cons.1 hp).1 _ hd' rfl
theorem calls_of_vc {P:Program}{f:FuncId}{fn:Func}{c:Code}{args:Array Value}{w:World}{R:Ending->World->Prop}{w0 X0} {G:St->Prop}(hf:P.funcs[f]?=some fn) (hb:fn.body=some c)
  (h:c.wpIn Fence.wide 0 P (fun e a w'=>match e with | .normal=>∃ s,G s/\StR w0 X0 fn.ntmps s a w' | .ret=>∃ s,G s/\StR w0 X0 fn.ntmps s a w' | _=>False) { tmps:=args++Array.replicate (fn.ntmps-args.size) undef,defers:=[] } w)
  (fin:∀ s (a:Act) w',G s->a.defers=[]->StR w0 X0 fn.ntmps s a w'->∃ v,(results fn a.tmps).run P w' = .ok v w'/\R (.returned v) w'):Calls P f args w R:=by
 refine callsIn_wide.1 (callsIn_of_wp_marks (n:=0) hf hb trivial (wpIn_mono h fun e a w' hq=>?_) rfl)
 cases e with
 | normal=>
  obtain ⟨s,hg,hs⟩:=hq
  exact LeavesInM.taken (fun a' w' _ hd hs=>fin s a' w' hg hd hs) a.defers a w' rfl rfl hs
 | ret=>
  obtain ⟨s,hg,hs⟩:=hq
  exact LeavesInM.taken (fun a' w' _ hd hs=>fin s a' w' hg hd hs) a.defers a w' rfl rfl hs
 | exit id=>exact hq.elim
 | goto t=>exact hq.elim
 | panic ch=>exact hq.elim
 | outgrown=>exact hq.elim
theorem spec_soundG {Γ:World->Fr->Prop}(hG:GOK Γ) {P:Program}{specs:List FSpec}(hspecs:∀ s∈specs,SpecG Γ P s) {eqs:List (TypeId×List CK)}(heqs:∀ t n,(t,n)∈eqs->EqOK P t n) (hm:P.follows .mixedOrders=true)
  {f:FuncId}{fn:Func}{body:Code}(hf:P.funcs[f]?=some fn) (hb:fn.body=some body) (_:codeB (effS specs) body=true) (hN:(∀ w0 X0,Γ w0 X0)\/noRF body=true) (hent:∀ args w,(callFunc f args).run P w = .ok (.enter f args) w)
  {γ:Type}{dec:List SV->Option γ}{args:γ->List SV}{pre:γ->Prop}{res:γ->SV}(A:γ->Ann) (hlen:∀ g,(args g).length<=fn.ntmps)
  (h:∀ g,pre g->vc P specs eqs fn.ntmps 0 false (A g) body (retK P fn (res g)) ⟨argsT 0 (args g),[]⟩):SpecG Γ P (mkSpec f dec args pre res):=by
 refine specG_of hG hent fun g hpre vals w X hsz hr hX hΓ=>?_
 have hvc:=h g hpre
 refine calls_of_vc (w0:=w) (X0:=Fr.of X) (G:=vcRes P fn (res g)) hf hb (vc_soundG (Γ:=Γ) (w0:=w) (X0:=Fr.of X) (fun w0 X0 h s hs=>hspecs s hs w0 X0 h) heqs hm body hN hΓ (.inl rfl) (fun _=>rfl) (fun k hk=>absurd rfl hk) _ _ _ _ hvc (fun e s a w' hk hs=>?walk) _ w ?start) (fun s a w' hk _ hs=>?fin)
 case walk=>
  cases e with
  | normal=>exact ⟨s,hk,hs⟩
  | ret=>exact ⟨s,hk,hs⟩
  | exit id=>exact hk.elim
 case fin=>
   obtain ⟨E,hrep,htr⟩:=hs
   unfold vcRes at hk
   split at hk
   case h_2=>exact hk.elim
   rename_i p l hres
   obtain ⟨hp,hk⟩:=hk
   obtain ⟨v,hv1,hv2⟩:=results_sound rfl hrep htr hres hp
   split at hk
   case h_2=>exact hk.elim
   rename_i fl hfl
   split at hk
   case h_2=>exact hk.elim
   rename_i sv hsv
   obtain ⟨g1,g2⟩:=frzAll_sound _ _ _ hrep hfl
   have hpure:=pur_sound g1 6 _ _ _ hsv (hv2.mono (fun _ _ _=>rfl) g2 (Env.le_refl _))
   exact ⟨v,hv1,v,rfl,pureR (fun b hb=> .inl hb) hk hpure,hrep.below.all⟩
 case start=>
  have hxo:Xo (Fr.of X) E0 []=X:=by
   funext b
   apply propext
   exact ⟨fun hb=>hb.elim id (fun ⟨k,e,he,_⟩=>(nomatch he)),fun hb=>Or.inl hb⟩
  have hT:=argsT_look fn.ntmps vals (args g) w X E0 hsz (hlen g) hr
  refine ⟨E0,⟨Bel.refl _ _,fun b hb=>⟨hX b hb,id⟩,fun k e he=>(nomatch he),fun k e he=>(nomatch he),fun k e he=>(nomatch he),fun k e b he=>(nomatch he),fun k k' e e' b he=>(nomatch he)⟩,hT.1,DefOK.nil _ _ _,fun t ht=>?_⟩
  rw [hxo]
  exact hT.2 t ht
theorem spec_sound {P:Program}{specs:List FSpec}(hspecs:∀ s∈specs,SpecOK P s) {eqs:List (TypeId×List CK)}(heqs:∀ t n,(t,n)∈eqs->EqOK P t n) (hm:P.follows .mixedOrders=true)
  {f:FuncId}{fn:Func}{body:Code}(hf:P.funcs[f]?=some fn) (hb:fn.body=some body) (hc:codeB (effS specs) body=true) (hent:∀ args w,(callFunc f args).run P w = .ok (.enter f args) w)
  {γ:Type}{dec:List SV->Option γ}{args:γ->List SV}{pre:γ->Prop}{res:γ->SV}(A:γ->Ann) (hlen:∀ g,(args g).length<=fn.ntmps)
  (h:∀ g,pre g->vc P specs eqs fn.ntmps 0 false (A g) body (retK P fn (res g)) ⟨argsT 0 (args g),[]⟩):SpecOK P (mkSpec f dec args pre res):=
 specOK_of_at fun w0 X0=>spec_soundG topG_ok (fun s hs=>(hspecs s hs).g) heqs hm hf hb hc (.inl fun _ _=>trivial) hent A hlen h w0 X0 trivial
end Go.Proofs.YtmhofgchidojoaaGreat.Sx
namespace Go.Proofs.YtmhofgchidojoaaGreat.Sx
open Go.RowKit
def flatFs (P:Program) (rec:TypeId->Option (List CK)):List Field->Nat->Option (List CK)
 | [],_=>some []
 | f :: fs, off => if f.name ≠ "_" ∧ f.offset = off then match rec f.type with
   | some ks=>match tinf P f.type with
    | some (m,_)=>if m=ks.length/\0<m then match flatFs P rec fs (off+m) with
      | some r=>some (ks++r)
      | none=>none
     else none
    | none=>none
   | none=>none
  else none
def rep (ks:List CK):Nat->List CK
 | 0=>[]
 | n+1=>ks++rep ks n
def flatT (P:Program):Nat->TypeId->Option (List CK)
 | 0,_=>none
 | d+1,t=>match P.underlying t with
  | some .bool=>some [.bool]
  | some (.int _)=>some [.int]
  | some .string=>some [.str]
  | some (.array len e)=>match flatT P d e with
   | some ks=>match tinf P e with
    | some (m,_)=>if m=ks.length/\0<m then some (rep ks len) else none
    | none=>none
   | none=>none
  | some (.struct fs)=>if P.stoodInHeld t=true then none else flatFs P (flatT P d) fs.toList 0
  | _=>none
theorem eqCells_append {g f:Nat->SV}:∀ {l r:List CK}{i:Nat}{b:Bool},eqCells g f (l++r) i=some b->∃ c t,eqCells g f l i=some c/\eqCells g f r (i+l.length)=some t/\b=(c&&t)
 | [],r,i,b,h=>⟨true,b,rfl,by simpa using h,by simp⟩
 | k::l,r,i,b,h=>by
  simp only [List.cons_append,eqCells] at h ⊢
  cases h1:eqC k (g i) (f i) with
  | none=>rw [h1] at h; cases h
  | some c=>
   cases h2:eqCells g f (l++r) (i+1) with
   | none=>rw [h1,h2] at h; cases h
   | some t=>
    rw [h1,h2] at h
    cases h
    obtain ⟨c',t',h3,h4,rfl⟩:=eqCells_append h2
    rw [h3]
    exact ⟨_,t',rfl,by rw [List.length_cons,show i+(l.length+1)=i+1+l.length by omega]; exact h4,by simp [Bool.and_assoc]⟩
theorem eqCells_shift {g f:Nat->SV}:∀ {l:List CK}{i off:Nat},eqCells g f l (off+i)=eqCells (fun j=>g (off+j)) (fun j=>f (off+j)) l i
 | [],_,_=>rfl
 | k::l,i,off=>by simp only [eqCells]; rw [show off+i+1=off+(i+1) by omega,eqCells_shift]
def KindOK (P:Program) (t:TypeId):CK->Prop
 | .int=>∃ k,P.underlying t=some (.int k)
 | .bool=>P.underlying t=some .bool
 | .str=>P.underlying t=some .string
theorem eqC_sound {P:Program}{w X E} {t:TypeId}{k:CK}{s r:SV}{x y:Value}{c:Bool}(hs:R w X E s x) (hr:R w X E r y) (he:eqC k s r=some c) (D:Nat)
  (hu:KindOK P t k):(Op.equalIn (D+1) t x y).run P w = .ok c w:=by
 cases k with
 | int=>
  simp only [eqC] at he
  split at he
  ·rename_i k a k' b
   obtain ⟨hk,rfl⟩:=ite_some he
   subst hk
   obtain ⟨k0,h0⟩:=hu
   rw [int_inv hs,int_inv hr,run_equalIn_int w D t k k0 a b h0,beq_eq_decide]
  ·cases he
 | bool=>
  simp only [eqC] at he
  split at he
  ·rename_i a b ha hb
   cases he
   rw [asB_inv ha hs,asB_inv hb hr]
   exact run_equalIn_bool' w D t a b hu
  ·cases he
 | str=>
  simp only [eqC] at he
  split at he
  ·rename_i a b
   cases he
   cases hs
   cases hr
   exact run_equalIn_string w D t a b hu
  ·cases he
def Cmp (w:World) (X:Nat->Prop) (E:Env) (n:Nat) (agg:Bool) (g f:Nat->SV) (x y:Value):Prop:=
 if agg=true then ∃ xs ys,x = .agg xs/\y = .agg ys/\xs.size=n/\ys.size=n/\(∀ i,i<n->R w X E (g i) (xs.getD i undef))/\(∀ i,i<n->R w X E (f i) (ys.getD i undef))
 else R w X E (g 0) x/\R w X E (f 0) y
theorem part_cmp {P:Program}{w X E} {t:TypeId}{m:Nat}{ag:Bool}(ht:tinf P t=some (m,ag)) {n off:Nat}{g:Nat->SV}{cs:Array Value}(hs:cs.size=n) (hm:0<m) (hle:off+m<=n)
  (h:∀ i,i<n->R w X E (g i) (cs.getD i undef)) :
  ∃ v,(Go.part t cs off).run P w = .ok v w/\(if ag=true then ∃ vs,v = .agg vs/\vs.size=m/\∀ i,i<m->R w X E (g (off+i)) (vs.getD i undef) else R w X E (g off) v):=by
 obtain ⟨h1,h2⟩:=tinf_spec ht w
 cases ag with
 | true=>
  have hg:∀ i,i<m->(cs.extract off (off+m)).getD i undef=cs.getD (off+i) undef:=fun i hi=>by
   rw [Array.getD_eq_getD_getElem?,Array.getElem?_extract,if_pos (by omega),Array.getD_eq_getD_getElem?]
  refine ⟨.agg (cs.extract off (off+m)),by simp [Go.part,h1,h2],?_⟩
  rw [if_pos rfl]
  exact ⟨_,rfl,by rw [Array.size_extract]; omega,fun i hi=>by rw [hg i hi]; exact h _ (by omega)⟩
 | false=>
  have:cs[off]?=some (cs.getD off undef):=by rw [Array.getD_eq_getD_getElem?,Array.getElem?_eq_getElem (by omega)]; rfl
  refine ⟨cs.getD off undef,by simp only [Go.part,Sem.run_bind,h1,Result.andThen_ok,this,Bool.false_eq_true,if_false,Sem.run_pure],?_⟩
  rw [if_neg (by simp)]
  exact h _ (by omega)
theorem tinf_of {P:Program}{t:TypeId}{m:Nat}{a:Bool}(h:tinf P t=some (m,a)):∃ i d,P.info? t=some i/\P.underlying t=some d/\i.size=m/\a=(match d with | .struct _ | .array _ _=>true | _=>false):=by
 unfold tinf at h
 cases hi:P.info? t with
 | none=>simp [hi] at h
 | some i=>
  cases hd:P.underlying t with
  | none=>simp [hi,hd] at h
  | some d=>
   simp only [hi,hd,Option.some.injEq,Prod.mk.injEq] at h
   exact ⟨i,d,rfl,rfl,h.1,h.2.symm⟩
theorem flat_eq {P:Program}{w:World}{X:Nat->Prop}{E:Env}:∀ (d:Nat) (t:TypeId) (ks:List CK),flatT P d t=some ks->∀ (m:Nat) (ag:Bool),tinf P t=some (m,ag)->m=ks.length->0<m->∀ (D:Nat),d<=D->∀ (g f:Nat->SV) (x y:Value) (b:Bool),
  Cmp w X E m ag g f x y->eqCells g f ks 0=some b->(Op.equalIn D t x y).run P w = .ok b w:=by
 intro d
 induction d with
 | zero=>intro t ks h; simp [flatT] at h
 | succ d ih=>
  intro t ks h m ag hti hm hpos D hD g f x y b hc he
  obtain ⟨D,rfl⟩:∃ D',D=D'+1:=⟨D-1,by omega⟩
  obtain ⟨i,dd,hi,hd,hsz,hag⟩:=tinf_of hti
  have sub:∀ (t':TypeId) (ks':List CK) (m':Nat) (ag':Bool),flatT P d t'=some ks'->tinf P t'=some (m',ag')->m'=ks'.length->0<m'->∀ (n off:Nat) (xs ys:Array Value) (c:Bool),xs.size=n->ys.size=n->off+m'<=n->
    (∀ i,i<n->R w X E (g i) (xs.getD i undef))->(∀ i,i<n->R w X E (f i) (ys.getD i undef))->eqCells g f ks' off=some c->
    ∃ u v,(Go.part t' xs off).run P w = .ok u w/\(Go.part t' ys off).run P w = .ok v w/\(Op.equalIn D t' u v).run P w = .ok c w:=by
   intro t' ks' m' ag' hf' hti' hm' hpos' n off xs ys c hxs hys hle hx hy hcc
   obtain ⟨u,hu,hu2⟩:=part_cmp (P:=P) hti' hxs hpos' hle hx
   obtain ⟨v,hv,hv2⟩:=part_cmp (P:=P) hti' hys hpos' hle hy
   refine ⟨u,v,hu,hv,ih t' ks' hf' m' ag' hti' hm' hpos' D (by omega) (fun j=>g (off+j)) (fun j=>f (off+j)) u v c ?_ ?_⟩
   ·unfold Cmp
    cases ag' with
    | true=>
     simp only [if_true] at hu2 hv2 ⊢
     obtain ⟨us,rfl,h1,h2⟩:=hu2
     obtain ⟨vs,rfl,h3,h4⟩:=hv2
     exact ⟨us,vs,rfl,rfl,h1,h3,h2,h4⟩
    | false=>
     simp only [Bool.false_eq_true,if_false] at hu2 hv2 ⊢
     exact ⟨hu2,hv2⟩
   ·rw [<-eqCells_shift]; exact hcc
  simp only [flatT,hd] at h
  have scal:∀ (k:CK),KindOK P t k->ks=[k]->ag=false->(Op.equalIn (D+1) t x y).run P w = .ok b w:=by
   intro k hk hks ha
   subst hks
   subst ha
   unfold Cmp at hc
   rw [if_neg (by simp)] at hc
   simp only [eqCells] at he
   cases hq:eqC k (g 0) (f 0) with
   | none=>rw [hq] at he; cases he
   | some c=>
    rw [hq] at he
    simp only [Option.some.injEq,Bool.and_true] at he
    subst he
    exact eqC_sound hc.1 hc.2 hq D hk
  cases dd with
  | bool=>cases h; exact scal .bool hd rfl hag
  | int k=>cases h; exact scal .int ⟨k,hd⟩ rfl hag
  | string=>cases h; exact scal .str hd rfl hag
  | array len e=>
   subst hag
   unfold Cmp at hc
   rw [if_pos rfl] at hc
   obtain ⟨xs,ys,rfl,rfl,hxs,hys,hx,hy⟩:=hc
   simp only at h
   cases hf':flatT P d e with
   | none=>rw [hf'] at h; cases h
   | some ks'=>
    rw [hf'] at h
    cases hti':tinf P e with
    | none=>rw [hti'] at h; cases h
    | some q=>
     obtain ⟨m',ag'⟩:=q
     rw [hti'] at h
     simp only at h
     obtain ⟨⟨hm',hpos'⟩,rfl⟩:=ite_some h
     obtain ⟨i',dd',hi',_,hsz',_⟩:=tinf_of hti'
     have hcell:P.cellsOf e=m':=by unfold Program.cellsOf; rw [hi']; exact hsz'
     rw [run_equalIn_array w D xs ys hd hi',hcell]
     have hlen:∀ n,(rep ks' n).length=n*m':=by
      intro n
      induction n with
      | zero=>simp [rep]
      | succ n ihn=>simp only [rep,List.length_append,ihn,<-hm']; rw [Nat.add_mul]; omega
     have key:∀ (k j:Nat) (c:Bool),(j+k)*m'<=m->eqCells g f (rep ks' k) (j*m')=some c->(Op.eqItems D e m' xs ys (List.range' j k)).run P w = .ok c w:=by
      intro k
      induction k with
      | zero=>intro j c _ hc; simp only [rep,eqCells,Option.some.injEq] at hc; subst hc; simp [Op.eqItems]
      | succ k ihk=>
       intro j c hle hc
       obtain ⟨c1,c2,e1,e2,rfl⟩:=eqCells_append hc
       have hle2:j*m'+m'<=m:=by
        have:(j+1)*m'<=(j+(k+1))*m':=Nat.mul_le_mul_right _ (by omega)
        rw [Nat.add_mul] at this
        omega
       obtain ⟨u,v,p1,p2,p3⟩:=sub e ks' m' ag' hf' hti' hm' hpos' m (j*m') xs ys c1 hxs hys hle2 hx hy e1
       have ih2:=ihk (j+1) c2 (by rw [show j+1+k=j+(k+1) by omega]; exact hle) (by rw [Nat.add_mul,Nat.one_mul,hm']; rw [hm'] at e2; exact e2)
       rw [List.range'_succ]
       simp only [Op.eqItems,Sem.run_bind,p1,p2,p3,Result.andThen_ok,Sem.run_ite,ih2,Sem.run_pure]
       cases c1<;>simp
     rw [List.range_eq_range']
     exact key len 0 b (by rw [Nat.zero_add,hm,hlen]; exact Nat.le_refl _) (by rw [Nat.zero_mul]; exact he)
  | struct fs=>
   subst hag
   unfold Cmp at hc
   rw [if_pos rfl] at hc
   obtain ⟨xs,ys,rfl,rfl,hxs,hys,hx,hy⟩:=hc
   simp only at h
   split at h
   ·cases h
   ·rename_i hst
    have hfo:P.fieldsOf t=fs:=by unfold Program.fieldsOf; rw [hd]
    rw [run_equalIn_struct w D t xs ys (by rw [hfo]; exact hd) (by simpa using hst),hfo]
    have key:∀ (l:List Field) (off:Nat) (ks:List CK) (c:Bool),flatFs P (flatT P d) l off=some ks->off+ks.length<=m->eqCells g f ks off=some c->(Op.eqFields D xs ys l).run P w = .ok c w:=by
     intro l
     induction l with
     | nil=>intro off ks c hfl _ hc; simp only [flatFs,Option.some.injEq] at hfl; subst hfl; simp only [eqCells,Option.some.injEq] at hc; subst hc; simp [Op.eqFields]
     | cons fd l ihl=>
      intro off ks c hfl hle hc
      simp only [flatFs] at hfl
      split at hfl
      case isFalse=>cases hfl
      rename_i hcond
      obtain ⟨hname,hoff⟩:=hcond
      cases hf':flatT P d fd.type with
      | none=>rw [hf'] at hfl; cases hfl
      | some ks'=>
       rw [hf'] at hfl
       cases hti':tinf P fd.type with
       | none=>rw [hti'] at hfl; cases hfl
       | some q=>
        obtain ⟨m',ag'⟩:=q
        rw [hti'] at hfl
        simp only at hfl
        split at hfl
        case isFalse=>cases hfl
        rename_i hmm
        obtain ⟨hm',h0⟩:=hmm
        cases hr:flatFs P (flatT P d) l (off+m') with
        | none=>rw [hr] at hfl; cases hfl
        | some r=>
         rw [hr] at hfl
         cases hfl
         obtain ⟨c1,c2,e1,e2,rfl⟩:=eqCells_append hc
         rw [List.length_append] at hle
         ·obtain ⟨u,v,p1,p2,p3⟩:=sub fd.type ks' m' ag' hf' hti' hm' h0 m off xs ys c1 hxs hys (by omega) hx hy e1
          have ih2:=ihl (off+m') r c2 hr (by omega) (by rw [hm']; exact e2)
          rw [<-hoff] at p1 p2
          simp only [Op.eqFields,ne_eq,hname,not_false_eq_true,if_true,Sem.run_bind,p1,p2,p3,Result.andThen_ok,Sem.run_ite,ih2,Sem.run_pure]
          cases c1<;>simp
    exact key fs.toList 0 ks b h (by rw [Nat.zero_add,hm]; exact Nat.le_refl _) he
  | _=>simp at h
theorem eqOK_of {P:Program}{t:TypeId}{ks:List CK}(h:flatT P 8 t=some ks) {m:Nat}(ht:tinf P t=some (m,true)) (hm:m=ks.length) (hpos:0<m) (hg:P.eqGuardType P.depth t=false):EqOK P t ks:=by
 intro w X E g f xs ys b hx hy he hrx hry x y
 refine ⟨run_eqGuard_agg w .eql t x y xs ys hg,run_eqGuard_agg w .neq t x y xs ys hg,?_⟩
 refine flat_eq (X:=X) (E:=E) 8 t ks h m true ht hm hpos 10000 (by omega) g f _ _ b ?_ he
 unfold Cmp
 rw [if_pos rfl]
 exact ⟨xs,ys,rfl,rfl,by omega,by omega,fun i hi=>hrx i (by omega),fun i hi=>hry i (by omega)⟩
theorem vc_of {A B:Prop}(h:A=B) (hb:B):A:=h▸hb
def AllOK (P:Program):List FSpec->Prop
 | []=>True
 | s::r=>SpecOK P s/\AllOK P r
theorem all_ok {P:Program}:∀ {l:List FSpec},AllOK P l->∀ s∈l,SpecOK P s
 | [],_,s,hs=>(List.not_mem_nil hs).elim
 | t::r,h,s,hs=>by
  rcases List.mem_cons.1 hs with rfl | hs
  ·exact h.1
  ·exact all_ok h.2 s hs
def AllEq (P:Program):List (TypeId×List CK)->Prop
 | []=>True
 | e::r=>EqOK P e.1 e.2/\AllEq P r
theorem all_eq {P:Program}:∀ {l:List (TypeId×List CK)},AllEq P l->∀ t n,(t,n)∈l->EqOK P t n
 | [],_,t,n,hs=>(List.not_mem_nil hs).elim
 | e::r,h,t,n,hs=>by
  rcases List.mem_cons.1 hs with he | hs
  ·have:=h.1; rw [<-he] at this; exact this
  ·exact all_eq h.2 t n hs
def lst (l:List SV) (i:Nat):SV:=l.getD i .any
def intOf:SV->Int
 | .int _ n=>n
 | _=>0
def boolOf:SV->Bool
 | .bool b=>b
 | .lit b=>b
 | _=>false
def A0:Ann:=⟨[],[]⟩
end Go.Proofs.YtmhofgchidojoaaGreat.Sx
namespace Go.Proofs.YtmhofgchidojoaaGreat.Sx
open Go.RowKit
def noOwn:SV->Prop
 | .fn _ _ g=>∀ i,noOwn (g i)
 | .agg _ g=>∀ i,noOwn (g i)
 | .tup _ g=>∀ i,noOwn (g i)
 | .sl _ _ g=>∀ i j,noOwn (g i j)
 | .slN ..=>False
 | .ref _ g=>∀ i,noOwn (g i)
 | .own ..=>False
 | .osl ..=>False
 | .ownAt ..=>False
 | .win ..=>False
 | .omap _=>False
 | .slP ..=>False
 | .refP _=>False
 | .ifc _ g=>∀ i,noOwn (g i)
 | _=>True
theorem allN_of {p:Nat->Prop}(h:∀ i,p i):∀ n,allN n p
 | 0=>trivial
 | n+1=>⟨allN_of h n,h n⟩
theorem SVle.refl:∀ {s:SV}(H H':List SO),noOwn s->SVle H H' s s:=by
 intro s
 induction s with
 | any=>intro H H' _; exact trivial
 | int k n=>intro H H' _; exact ⟨⟨rfl⟩,⟨rfl⟩⟩
 | bool b=>intro H H' _; exact ⟨rfl⟩
 | lit b=>intro H H' _; exact ⟨rfl⟩
 | str b=>intro H H' _; exact ⟨rfl⟩
 | nilfn=>intro H H' _; exact trivial
 | cap0=>intro H H' _; exact trivial
 | fn f n g ih=>intro H H' h; simp only [SVle,if_true]; exact ⟨⟨trivial⟩,allN_of (fun i=>ih i H H' (h i)) n⟩
 | agg n g ih=>intro H H' h; simp only [SVle,if_true]; exact allN_of (fun i=>ih i H H' (h i)) n
 | tup n g ih=>intro H H' h; simp only [SVle,if_true]; exact allN_of (fun i=>ih i H H' (h i)) n
 | sl len n g ih=>intro H H' h; simp only [SVle,if_true]; exact ⟨⟨trivial⟩,fun i _=>allN_of (fun j=>ih i j [] [] (h i j)) n⟩
 | ref n g ih=>intro H H' h; simp only [SVle,Nat.le_refl,if_true]; exact allN_of (fun i=>ih i [] [] (h i)) n
 | own k off=>intro H H' h; exact h.elim
 | osl k ver=>intro H H' h; exact h.elim
 | ownAt k ver i n off=>intro H H' h; exact h.elim
 | win k ver n lo len=>intro H H' h; exact h.elim
 | con v=>intro H H' _; exact ⟨rfl⟩
 | slP=>intro H H' h; exact h.elim
 | refP=>intro H H' h; exact h.elim
 | ifc T g ih=>intro H H' h; simp only [SVle,if_true]; exact ih 0 H H' (h 0)
 | omap k=>intro H H' h; exact h.elim
 | nilsl=>intro H H' _; exact trivial
 | slN=>intro H H' h; exact h.elim
def noOwns:List SV->Prop
 | []=>True
 | s::l=>noOwn s/\noOwns l
theorem leArgs_refl:∀ {l:List SV},noOwns l->mkSpec.leArgs l l
 | [],_=>trivial
 | _::_,h=>⟨SVle.refl [] [] h.1,leArgs_refl h.2⟩
theorem noOwn_lst:∀ {l:List SV},noOwns l->∀ i,noOwn (lst l i)
 | [],_,_=>trivial
 | _::_,h,0=>h.1
 | _::_,h,i+1=>noOwn_lst h.2 i
def RL (w:World) (X:Nat->Prop):List SV->List Value->Prop
 | [],[]=>True
 | s::l,v::r=>R w X E0 s v/\RL w X l r
 | _,_=>False
theorem RL.len {w X}:∀ {l:List SV}{r:List Value},RL w X l r->r.length=l.length
 | [],[],_=>rfl
 | _::_,_::_,h=>congrArg Nat.succ (RL.len h.2)
 | [],_::_,h=>h.elim
 | _::_,[],h=>h.elim
theorem RL.get {w X}:∀ {l:List SV}{r:List Value},RL w X l r->∀ i,i<l.length->R w X E0 (l.getD i .any) (r.getD i undef)
 | [],[],_,_,hi=>absurd hi (Nat.not_lt_zero _)
 | _::_,_::_,h,0,_=>h.1
 | _::_,_::_,h,i+1,hi=>RL.get h.2 i (Nat.lt_of_succ_lt_succ hi)
 | [],_::_,h,_,_=>h.elim
 | _::_,[],h,_,_=>h.elim
theorem law_okG {Γ:World->Fr->Prop}{P:Program}{f:FuncId}{γ:Type}{dec:List SV->Option γ}{args:γ->List SV}{pre:γ->Prop}(h:SpecG Γ P (mkSpec f dec args pre fun _=> .bool true)) (g:γ) (hd:dec (args g)=some g) (hn:noOwns (args g)) (hp:pre g)
  {vals:List Value}{w:World}(hR:RL w (fun _=>False) (args g) vals) (hΓ:Γ w (Fr.of fun _=>False)) (hpu:(args g).all (isPure 6)=true:=by rfl):Calls P f vals.toArray w fun e w'=>e = .returned (.bool true)/\Below w.heap.size w w':=by
 have hrep:Rep w (Fr.of fun _=>False) [] E0 w:=⟨Bel.refl _ _,fun b hb=>hb.elim,fun k e he=>(nomatch he),fun k e he=>(nomatch he),fun k e he=>(nomatch he),fun k e b he=>(nomatch he),fun k k' e e' b he=>(nomatch he)⟩
 refine ((h w (Fr.of fun _=>False) hΓ).2.2 (args g) [] 0 ⟨mkSpec.leArgs (args g) (args g)/\Ask (pre g),.bool true,.keep⟩ ?_ ⟨leArgs_refl hn,⟨hp⟩⟩ E0 w hrep (fun so hso=>by cases hso) vals.toArray ?_).mono ?_
 ·simp only [mkSpec]
  rw [hd,hpu]
 ·refine ⟨by rw [<-hR.len]; simp,fun i hi=>?_⟩
  have:=(hR.get i hi).mono (X':=Xo (Fr.of fun _=>False) E0 []) (fun _ _ _=>rfl) (fun b _ hb=>hb.elim id fun ⟨k,e,he,_⟩=>(nomatch he)) (Env.le_refl _)
  rw [Array.getD_eq_getD_getElem?,List.getElem?_toArray,<-List.getD_eq_getElem?_getD]
  exact this
 ·rintro e w' ⟨v,rfl,E',_,_,_,hr,hv,_⟩
  rw [bool_inv hv]
  exact ⟨rfl,hr.below.all⟩
theorem law_ok {P:Program}{f:FuncId}{γ:Type}{dec:List SV->Option γ}{args:γ->List SV}{pre:γ->Prop}(h:SpecOK P (mkSpec f dec args pre fun _=> .bool true)) (g:γ) (hd:dec (args g)=some g) (hn:noOwns (args g)) (hp:pre g)
  {vals:List Value}{w:World}(hR:RL w (fun _=>False) (args g) vals) (hpu:(args g).all (isPure 6)=true:=by rfl):Calls P f vals.toArray w fun e w'=>e = .returned (.bool true)/\Below w.heap.size w w':=
 law_okG (Γ:=topG) h.g g hd hn hp hR trivial hpu
def AllP (p:Int->Prop):List Int->Prop
 | []=>True
 | x::r=>p x/\AllP p r
theorem AllP.mem {p:Int->Prop}:∀ {l:List Int},AllP p l->∀ x∈l,p x
 | [],_,x,hx=>(List.not_mem_nil hx).elim
 | y::r,h,x,hx=>by
  rcases List.mem_cons.1 hx with rfl | hx
  ·exact h.1
  ·exact h.2.mem x hx
def slLen:SV->Nat
 | .sl n _ _=>n
 | .slN n _ _=>n
 | _=>0
end Go.Proofs.YtmhofgchidojoaaGreat.Sx
namespace Go.Proofs.YtmhofgchidojoaaGreat.Sx
open Go.RowKit
end Go.Proofs.YtmhofgchidojoaaGreat.Sx
set_option linter.unusedSimpArgs false
set_option linter.unusedVariables false
namespace Go.Proofs.YtmhofgchidojoaaGreat.Sx
open Go.RowKit
theorem R_sl {α:Type}{c:α->List Value}{sz:Nat}{w:World}{X:Nat->Prop}{v:Value}{xs:List α}{g:Nat->Nat->SV}(hsz:0<sz) (h:Sl c sz w v xs) (hX:∀ b,¬ X b)
  (hR:∀ i j (hi:i<xs.length),j<sz->∃ u,(c xs[i])[j]?=some u/\oneCell u/\R w X E0 (g i j) u):R w X E0 (.sl xs.length sz g) v:=by
 obtain ⟨p,cap,rfl,h1,h2,h3⟩:=h
 by_cases h0:xs=[]
 ·subst h0; exact .sl0
 rcases h3 with h3 | ⟨b,off,rfl,hcell⟩
 ·exact absurd h3 h0
 have hpos:0<xs.length:=List.length_pos_iff.2 h0
 obtain ⟨u0,hu0,_⟩:=hR 0 0 hpos hsz
 have hcell0:=(hcell 0 0 hpos hsz).trans hu0
 cases hb:w.heap[b]? with
 | none=>simp [World.cell?,hb] at hcell0
 | some o=>
  cases o<;>simp only [World.cell?,hb,reduceCtorEq] at hcell0<;>try (simp at hcell0; done)
  rename_i cc T fr
  have hget:∀ i j (hi:i<xs.length),j<sz->off+i*sz+j<cc.size/\∃ u,cc.getD (off+i*sz+j) undef=u/\oneCell u/\R w X E0 (g i j) u:=by
   intro i j hi hj
   obtain ⟨u,hu1,hu2,hu3⟩:=hR i j hi hj
   have h4:=(hcell i j hi hj).trans hu1
   simp only [World.cell?,hb,Option.isSome_none,Bool.false_eq_true,if_false] at h4
   have hlt:off+i*sz+j<cc.size:=by
    refine Classical.byContradiction fun hc=>?_
    rw [Array.getElem?_eq_none (Nat.not_lt.1 hc)] at h4
    cases h4
   refine ⟨hlt,u,?_,hu2,hu3⟩
   rw [Array.getD_eq_getD_getElem?,h4]
   rfl
  have hlast:=(hget (xs.length-1) (sz-1) (by omega) (by omega)).1
  have e1:(xs.length-1)*sz+sz=xs.length*sz:=by
   obtain ⟨m,hm⟩:∃ m,xs.length=m+1:=⟨xs.length-1,by omega⟩
   rw [hm,Nat.add_sub_cancel,Nat.succ_mul]
  refine .sl hb (hX b) (by omega) h1 (fun i j hi hj=>?_) fun i j hi hj=>?_
  ·obtain ⟨_,u,hu,hu2,_⟩:=hget i j hi hj
   rw [hu]; exact hu2
  ·obtain ⟨_,u,hu,_,hu3⟩:=hget i j hi hj
   rw [hu]; exact hu3
theorem leafs_ints {P:Program}{w:World}{t:TypeId}{k:IntKind}(ht:P.underlying t=some (.int k)):∀ (n:Nat) (cs:List Value),All2 (Leaf P w) (List.replicate n t) cs->
  (cs.map fun v=>intOf (ofV v)).map (Value.int k)=cs/\(cs.map fun v=>intOf (ofV v)).length=n/\∀ x∈cs.map fun v=>intOf (ofV v),(Lit.int k x).wf=true
 | 0,cs,h=>by
  obtain rfl:=All2.nil_inv h
  exact ⟨rfl,rfl,fun x hx=>absurd hx (by simp)⟩
 | n+1,cs,h=>by
  obtain ⟨y,m,rfl,e1,l1⟩:=All2.cons_inv h
  obtain ⟨z,rfl,hw⟩:=leaf_int ht e1
  obtain ⟨h1,h2,h3⟩:=leafs_ints ht n m l1
  refine ⟨?_,by simp only [List.map_cons,List.length_cons]; rw [h2],fun x hx=>?_⟩
  ·simp only [List.map_cons]
   rw [h1]
   rfl
  ·simp only [List.map_cons,List.mem_cons] at hx
   rcases hx with rfl | hx
   ·exact hw
   ·exact h3 x hx
theorem leaf_rows {P:Program}{w:World}{T e t:TypeId}{v:Value}{k:IntKind}(n:Nat) (hu:P.underlying T=some (.slice e)) (ht:P.underlying t=some (.int k)) (hk:P.cellsOf e=n) (hn:0<n)
  (hl:leaves P 20 e=some (List.replicate n t)) (h:Leaf P w T v) :
  ∃ (len:Nat) (f:Nat->Nat->Int),(∀ g:Nat->Nat->SV,(∀ i j,j<n->g i j = .int k (f i j))->R w (fun _=>False) E0 (.sl len n g) v)/\(∀ i j,i<len->j<n->(Lit.int k (f i j)).wf=true)/\len<=maxLen:=by
 obtain ⟨xs,h3,h4,h5⟩:=sl_of_leaf (c:=fun l:List Int=>l.map (Value.int k)) (mk:=fun cs=>cs.map fun v=>intOf (ofV v)) (ok:=fun l=>l.length=n/\∀ x∈l,(Lit.int k x).wf=true) hu hk hn hl (fun cs hcs=>leafs_ints ht n cs hcs) h
 have hx:∀ i (hi:i<xs.length) j,j<n->∃ hj:j<(xs[i]).length,(xs.getD i []).getD j 0=(xs[i])[j]:=fun i hi j hj=>by
  have hl:=(h4 xs[i] (List.getElem_mem hi)).1
  refine ⟨by omega,?_⟩
  have e1:xs.getD i []=xs[i]:=by rw [List.getD_eq_getElem?_getD,List.getElem?_eq_getElem hi]; rfl
  rw [e1,List.getD_eq_getElem?_getD,List.getElem?_eq_getElem (by omega)]
  rfl
 refine ⟨xs.length,fun i j=>(xs.getD i []).getD j 0,fun g hg=>R_sl hn h3 (fun _=>id) fun i j hi hj=>?_,fun i j hi hj=>?_,h5⟩
 ·obtain ⟨hj',he⟩:=hx i hi j hj
  refine ⟨.int k (xs[i])[j],by simp [hj'],rfl,?_⟩
  rw [hg i j hj]
  show R w _ E0 (.int k ((xs.getD i []).getD j 0)) _
  rw [he]
  exact .int
 ·obtain ⟨hj',he⟩:=hx i hi j hj
  show (Lit.int k ((xs.getD i []).getD j 0)).wf=true
  rw [he]
  exact (h4 xs[i] (List.getElem_mem hi)).2 _ (List.getElem_mem hj')
end Go.Proofs.YtmhofgchidojoaaGreat.Sx
namespace Go.Proofs.YtmhofgchidojoaaGreat.Sx
open Go.RowKit
inductive NP:Type
 | arg (i:Nat)
 | part (i j:Nat)
 | cell (o j:Nat)
 | hole (o:Nat)
def nameOf:SV->Option Nat
 | .own k _=>some k
 | .osl k _=>some k
 | .ownAt k _ _ _ _=>some k
 | .omap k=>some k
 | _=>none
def subS (j:Nat):SV->Option SV
 | .fn _ n g=>if j<n then some (g j) else none
 | .agg n g=>if j<n then some (g j) else none
 | .slP n g=>if j<n then some (g j) else none
 | _=>none
def nameAt (H:List SO) (args:List SV) (ks:List Nat):NP->Option Nat
 | .arg i=>if i<args.length then nameOf (args.getD i .any) else none
 | .part i j=>if i<args.length then match subS j (args.getD i .any) with
  | some s=>nameOf s
  | none=>none
  else none
 | .cell o j=>match ks[o]? with
  | some k=>match H.getD k .dead with
   | .cells n g _=>if j<n then nameOf (g j) else none
   | _=>none
  | none=>none
 | .hole o=>match ks[o]? with
  | some k=>match H.getD k .dead with
   | .deep _ _ _ _ _ _ _ _ _ ho=>match ho with
    | some q=>nameOf q.2
    | none=>none
   | _=>none
  | none=>none
def holeP (H:List SO) (ks:List Nat):NP->Prop
 | .hole o=>match ks[o]? with
  | some k=>match H.getD k .dead with
   | .deep _ len _ _ _ _ _ _ _ ho=>match ho with
    | some q=>Ask (q.1<len)
    | none=>True
   | _=>True
  | none=>True
 | _=>True
def holesP (H:List SO) (ks:List Nat):List NP->Prop
 | []=>True
 | p::r=>holeP H ks p/\holesP H ks r
def hasHole:List NP->Bool
 | []=>false
 | .hole _::_=>true
 | _::r=>hasHole r
def holeO (os:List SO):NP->Prop
 | .hole o=>match os[o]? with
  | some so=>match so with
   | .deep _ len _ _ _ _ _ _ _ ho=>match ho with
    | some q=>Ask (q.1<len)
    | none=>True
   | _=>True
  | none=>True
 | _=>True
def holesO (os:List SO):List NP->Prop
 | []=>True
 | p::r=>holeO os p/\holesO os r
def withHoles (os:List SO) (ps:List NP) (a:Prop):Prop:=match hasHole ps with
 | true=>a/\holesO os ps
 | false=>a
theorem holesO_none {os:List SO}:∀ {ps:List NP},hasHole ps=false->holesO os ps
 | [],_=>trivial
 | .arg _::r,h=>⟨trivial,holesO_none (ps:=r) h⟩
 | .part _ _::r,h=>⟨trivial,holesO_none (ps:=r) h⟩
 | .cell _ _::r,h=>⟨trivial,holesO_none (ps:=r) h⟩
 | .hole _::r,h=>by cases h
theorem withHoles_get {os:List SO}{ps:List NP}{a:Prop}(h:withHoles os ps a):a/\holesO os ps:=by
 unfold withHoles at h
 split at h
 ·exact h
 ·rename_i hn; exact ⟨h,holesO_none hn⟩
theorem holeP_of {H:List SO}{ks:List Nat}{p:NP}(h:holeO (ks.map fun k=>H.getD k .dead) p):holeP H ks p:=by
 cases p with
 | hole o=>
  simp only [holeO,List.getElem?_map] at h
  simp only [holeP]
  cases hk:ks[o]? with
  | none=>trivial
  | some k=>
   rw [hk] at h
   simp only [Option.map_some] at h
   cases hso:H.getD k .dead with
   | deep ver len n c m p g T T' ho=>
    rw [hso] at h
    simp only [hso]
    cases ho with
    | none=>trivial
    | some q=>exact h
   | _=>simp only [hso]
 | _=>trivial
theorem holesP_of {H:List SO}{ks:List Nat}:∀ {ps:List NP},holesO (ks.map fun k=>H.getD k .dead) ps->holesP H ks ps
 | [],_=>trivial
 | p::r,h=>⟨holeP_of h.1,holesP_of h.2⟩
def namesOf (H:List SO) (args:List SV):List NP->List Nat->Option (List Nat)
 | [],ks=>some ks
 | p::r,ks=>match nameAt H args ks p with
  | some k=>namesOf H args r (ks++[k])
  | none=>none
def posOf:List Nat->Nat->Option Nat
 | [],_=>none
 | a::r,k=>match Nat.beq a k with
  | true=>some 0
  | false=>match posOf r k with
   | some i=>some (i+1)
   | none=>none
def nodupB:List Nat->Bool
 | []=>true
 | a::r=>(posOf r a).isNone&&nodupB r
theorem posOf_get:∀ {ks:List Nat}{k i:Nat},posOf ks k=some i->ks[i]?=some k
 | [],k,i,h=>by cases h
 | a::r,k,i,h=>by
  simp only [posOf] at h
  split at h
  ·rename_i hb
   cases h
   rw [Nat.eq_of_beq_eq_true hb]; rfl
  ·split at h
   ·rename_i j hj
    cases h
    rw [List.getElem?_cons_succ]
    exact posOf_get hj
   ·cases h
theorem posOf_none:∀ {ks:List Nat}{k:Nat},posOf ks k=none->k ∉ ks
 | [],k,_=>List.not_mem_nil
 | a::r,k,h=>by
  simp only [posOf] at h
  split at h
  ·cases h
  ·rename_i hb
   split at h
   ·cases h
   ·rename_i hr
    intro hm
    rcases List.mem_cons.1 hm with rfl | hm
    ·rw [Nat.beq_refl] at hb; cases hb
    ·exact posOf_none hr hm
theorem posOf_some {ks:List Nat}{k:Nat}(h:k∈ks):∃ i,posOf ks k=some i:=by
 cases hp:posOf ks k with
 | none=>exact absurd h (posOf_none hp)
 | some i=>exact ⟨i,rfl⟩
theorem posOf_mem {ks:List Nat}{k i:Nat}(h:posOf ks k=some i):k∈ks:=List.mem_of_getElem? (posOf_get h)
theorem posOf_of:∀ {ks:List Nat}{k i:Nat},nodupB ks=true->ks[i]?=some k->posOf ks k=some i
 | [],k,i,_,h=>by cases h
 | a::r,k,0,_,h=>by
  simp only [List.getElem?_cons_zero,Option.some.injEq] at h
  subst h
  simp only [posOf,Nat.beq_refl]
 | a::r,k,i+1,hn,h=>by
  simp only [nodupB,Bool.and_eq_true] at hn
  have h':r[i]?=some k:=h
  have hne:Nat.beq a k=false:=by
   cases hb:Nat.beq a k with
   | false=>rfl
   | true=>
    have:=Nat.eq_of_beq_eq_true hb
    subst this
    obtain ⟨j,hj⟩:=posOf_some (List.mem_of_getElem? h')
    rw [hj] at hn
    simp at hn
  simp only [posOf,hne,posOf_of hn.2 h']
theorem posOf_inj {ks:List Nat}{k k' i:Nat}(h:posOf ks k=some i) (h':posOf ks k'=some i):k=k':=by
 have h1:=posOf_get h
 rw [posOf_get h'] at h1
 exact (Option.some.inj h1).symm
def verO:SO->Nat
 | .row v ..=>v
 | .srow v ..=>v
 | .deep v ..=>v
 | _=>0
def aliveB:SO->Bool
 | .dead=>false
 | _=>true
def sml (os:List SO) (ks:List Nat):SV->SV
 | .own k off=>match posOf ks k with
  | some i=> .own i off
  | none=> .any
 | .osl k ver=>match posOf ks k with
  | some i=>match Nat.beq ver (verO (os.getD i .dead)) with
   | true=> .osl i 0
   | false=> .any
  | none=> .any
 | .ownAt k ver a n off=>match posOf ks k with
  | some i=>match Nat.beq ver (verO (os.getD i .dead)) with
   | true=> .ownAt i 0 a n off
   | false=> .any
  | none=> .any
 | .omap k=>match posOf ks k with
  | some i=>match Nat.beq (verO (os.getD i .dead)) 0 with
   | true=> .omap i
   | false=> .any
  | none=> .any
 | .win k ver n lo len=>match posOf ks k with
  | some i=>match Nat.beq ver (verO (os.getD i .dead)) with
   | true=> .win i 0 n lo len
   | false=> .any
  | none=> .any
 | .agg n g=> .agg n (fun i=>sml os ks (g i))
 | .tup n g=> .tup n (fun i=>sml os ks (g i))
 | .fn f n g=> .fn f n (fun i=>sml os ks (g i))
 | .slP n g=> .slP n (fun i=>sml os ks (g i))
 | .refP g=> .refP (fun i=>sml os ks (g i))
 | .ifc T g=> .ifc T (fun i=>sml os ks (g i))
 | s=>s
def smlO (os:List SO) (ks:List Nat):SO->SO
 | .cells n g T=> .cells n (fun i=>sml os ks (g i)) T
 | .row _ len n g T=> .row 0 len n g T
 | .srow _ len n g=> .srow 0 len n g
 | .deep _ len n c m p g T T' ho=> .deep 0 len n c m p g T T' (hoMap (sml os ks) ho)
 | .mps kd has c m p T' ho=> .mps kd has c m p T' (hoIMap (sml os ks) ho)
 | s=>s
def big (os:List SO) (ks:List Nat):SV->SV
 | .own i off=>match ks[i]? with
  | some k=> .own k off
  | none=> .any
 | .osl i ver=>match ks[i]? with
  | some k=> .osl k (verO (os.getD i .dead)+ver)
  | none=> .any
 | .ownAt i ver a n off=>match ks[i]? with
  | some k=> .ownAt k (verO (os.getD i .dead)+ver) a n off
  | none=> .any
 | .omap i=>match ks[i]? with
  | some k=> .omap k
  | none=> .any
 | .win i ver n lo len=>match ks[i]? with
  | some k=> .win k (verO (os.getD i .dead)+ver) n lo len
  | none=> .any
 | .agg n g=> .agg n (fun i=>big os ks (g i))
 | .tup n g=> .tup n (fun i=>big os ks (g i))
 | .fn f n g=> .fn f n (fun i=>big os ks (g i))
 | .slP n g=> .slP n (fun i=>big os ks (g i))
 | .refP g=> .refP (fun i=>big os ks (g i))
 | .ifc T g=> .ifc T (fun i=>big os ks (g i))
 | s=>s
def bigO (os:List SO) (ks:List Nat) (v0:Nat):SO->SO
 | .cells n g T=> .cells n (fun i=>big os ks (g i)) T
 | .row ver len n g T=> .row (v0+ver) len n g T
 | .srow ver len n g=> .srow (v0+ver) len n g
 | .deep ver len n c m p g T T' ho=> .deep (v0+ver) len n c m p g T T' (hoMap (big os ks) ho)
 | .mps kd has c m p T' ho=> .mps kd has c m p T' (hoIMap (big os ks) ho)
 | s=>s
def setsOf (os:List SO) (ks:List Nat) (post:List SO):List Nat->Nat->List (Nat×SO)
 | [],_=>[]
 | k::r,i=>(k,bigO os ks (verO (os.getD i .dead)) (post.getD i .dead))::setsOf os ks post r (i+1)
theorem applyS_sets {os:List SO}{ks:List Nat}{post:List SO}:∀ (r:List Nat) (i:Nat) (H0:List SO),nodupB r=true->(∀ k∈r,k<H0.length)->
  (applyS H0 (setsOf os ks post r i)).length=H0.length/\∀ k,(applyS H0 (setsOf os ks post r i)).getD k .dead=match posOf r k with
   | some j=>bigO os ks (verO (os.getD (i+j) .dead)) (post.getD (i+j) .dead)
   | none=>H0.getD k .dead
 | [],i,H0,_,_=>⟨rfl,fun _=>rfl⟩
 | a::r,i,H0,hn,hk=>by
  simp only [nodupB,Bool.and_eq_true] at hn
  obtain ⟨h1,h2⟩:=applyS_sets (post:=post) r (i+1) (H0.set a (bigO os ks (verO (os.getD i .dead)) (post.getD i .dead))) hn.2 (fun k hm=>by rw [List.length_set]; exact hk k (List.mem_cons_of_mem _ hm))
  have e:applyS H0 (setsOf os ks post (a::r) i)=applyS (H0.set a (bigO os ks (verO (os.getD i .dead)) (post.getD i .dead))) (setsOf os ks post r (i+1)):=rfl
  rw [e]
  refine ⟨by rw [h1,List.length_set],fun k=>?_⟩
  rw [h2 k]
  simp only [posOf]
  cases hb:Nat.beq a k with
  | true=>
   have:=Nat.eq_of_beq_eq_true hb
   subst this
   have hr:posOf r a=none:=by simpa using hn.1
   rw [hr]
   simp only [Nat.add_zero]
   exact getD_set_eq (hk a List.mem_cons_self)
  | false=>
   have hne:k≠a:=fun hc=>by subst hc; rw [Nat.beq_refl] at hb; cases hb
   cases hr:posOf r k with
   | some j=>simp only; rw [show i+1+j=i+(j+1) by omega]
   | none=>simp only; exact getD_set_ne' hne
def smlE (E:Env) (ks:List Nat):Env:=fun i=>match ks[i]? with
 | some k=>match E k with
  | some (.blk b)=>some (.blk b)
  | some (.slc _ v us)=>some (.slc 0 v us)
  | none=>none
 | none=>none
theorem smlE_blk {E:Env}{ks:List Nat}{k i b:Nat}(h:posOf ks k=some i) (he:E k=some (.blk b)):smlE E ks i=some (.blk b):=by
 simp only [smlE,posOf_get h,he]
theorem smlE_slc {E:Env}{ks:List Nat}{k i ver:Nat}{v:Value}{us:Nat->Option Nat}(h:posOf ks k=some i) (he:E k=some (.slc ver v us)):smlE E ks i=some (.slc 0 v us):=by
 simp only [smlE,posOf_get h,he]
theorem smlE_inv {E:Env}{ks:List Nat}{i:Nat}{e:EI}(h:smlE E ks i=some e):∃ k,ks[i]?=some k/\((∃ b,E k=some (.blk b)/\e = .blk b)\/∃ ver v us,E k=some (.slc ver v us)/\e = .slc 0 v us):=by
 simp only [smlE] at h
 split at h
 ·rename_i k hk
  split at h
  ·rename_i b hb; cases h; exact ⟨k,hk,.inl ⟨b,hb,rfl⟩⟩
  ·rename_i ver v us hv; cases h; exact ⟨k,hk,.inr ⟨ver,v,us,hv,rfl⟩⟩
  ·cases h
 ·cases h
def VerOK (os:List SO) (E:Env) (ks:List Nat):Prop:=∀ i k,ks[i]?=some k->∀ ver v us,E k=some (.slc ver v us)->verO (os.getD i .dead)=ver
theorem R_slN {w:World}{X X':Nat->Prop}(hx:∀ b,X' b->X b) {E E':Env}{len n:Nat}{g:Nat->Nat->SV}{v:Value}(h:R w X E (.slN len n g) v):R w X' E' (.slN len n g) v:=by
 cases h with
 | slN hr=>
  refine .slN ?_
  cases hr with
  | sl0=>exact .sl0
  | sl hb hX hc hl ho hr=>exact .sl hb (fun hc=>hX (hx _ hc)) hc hl ho fun i j hi hj=>(hr i j hi hj).mono (fun _ _ _=>rfl) (fun b _ hb=>hx b hb) (Env.le_refl _)
theorem MpsOK.over {w X X' E E' us kd has c m p T' ho es} (d:MpsOK w X E us kd has c m p T' ho es) (hx:∀ b,X' b->X b) (f:SV->SV) (hf:∀ s u,R w X E s u->R w X' E' (f s) u):MpsOK w X' E' us kd has c m p T' (hoIMap f ho) es:=by
 have weak:∀ {s:SV}{v:Value},R w X E0 s v->R w X' E0 s v:=fun h=>h.mono (fun _ _ _=>rfl) (fun b _ hb=>hx b hb) (Env.le_refl _)
 refine ⟨d.map,fun y e he hke hh=>?_,d.gone,fun hy sv fl hho=>?_,fun y y' b q1 q2=>d.inj y y' b (by rwa [hoI_map_none] at q1) (by rwa [hoI_map_none] at q2)⟩
 ·rw [hoI_map_none] at hh
  obtain ⟨q1,ys,q2,q3⟩:=d.inn y e he hke hh
  exact ⟨q1,ys,q2,fun i' j hi' hj=>⟨(q3 i' j hi' hj).1,weak (q3 i' j hi' hj).2⟩⟩
 ·cases ho with
  | none=>cases hho
  | some q=>
   cases hho
   obtain ⟨g1,g2,g3⟩:=d.out q.1 q.2.1 q.2.2 rfl
   exact ⟨g1,fun e he hke=>hf _ _ (g2 e he hke),fun hz=>hf _ _ (g3 hz)⟩
theorem MpiOK.over {w X X' kk tot has val es} (d:MpiOK w X kk tot has val es) (hx:∀ b,X' b->X b):MpiOK w X' kk tot has val es:=by
 have weak:∀ {s:SV}{v:Value},R w X E0 s v->R w X' E0 s v:=fun h=>h.mono (fun _ _ _=>rfl) (fun b _ hb=>hx b hb) (Env.le_refl _)
 exact ⟨d.1,fun l e hl he hk=>weak (d.2.1 l e hl he hk),fun ht l hl hh=>weak (d.2.2 ht l hl hh)⟩
theorem EIok_mapver {w X E ver b us} {so:SO}(h:EIok w X E (.slc ver (.map (some b)) us) so) (ha:aliveB so=true):ver=0:=by
 cases so with
 | dead=>cases ha
 | cells=>exact h.elim
 | scells=>exact h.elim
 | row=>obtain ⟨_,xs,ho,_⟩:=h; rcases ho with ⟨a,h1,_⟩ | ⟨b',cap,cur,h1,_⟩<;>cases h1
 | srow=>obtain ⟨_,hr⟩:=h; cases hr
 | deep=>obtain ⟨_,xs,d⟩:=h; rcases d.own with ⟨a,h1,_⟩ | ⟨b',cap,cur,h1,_⟩<;>cases h1
 | mpi=>exact h.1
 | mps=>exact h.1
theorem R_sml {w:World}{X X':Nat->Prop}(hx:∀ b,X' b->X b) {os:List SO}{ks:List Nat}{E:Env}(hv:VerOK os E ks) {s:SV}{v:Value}(h:R w X E s v):R w X' (smlE E ks) (sml os ks s) v:=by
 induction s generalizing v with
 | any=>exact .any
 | int=>cases h; exact .int
 | bool=>cases h; exact .bool
 | lit=>cases h; exact .lit
 | str=>cases h; exact .str
 | nilfn=>cases h; exact .nilfn
 | cap0=>cases h; exact .cap0
 | fn f n g ih=>cases h with | fn hs hr=>exact .fn hs fun i hi=>ih i (hr i hi)
 | agg n g ih=>cases h with | agg hs ho hr=>exact .agg hs ho fun i hi=>ih i (hr i hi)
 | tup n g ih=>cases h with | tup hs hr=>exact .tup hs fun i hi=>ih i (hr i hi)
 | sl len n g ih=>
  cases h with
  | sl0=>exact .sl0
  | sl hb hX hc hl ho hr=>exact .sl hb (fun hc=>hX (hx _ hc)) hc hl ho fun i j hi hj=>(hr i j hi hj).mono (fun _ _ _=>rfl) (fun b _ hb=>hx b hb) (Env.le_refl _)
 | ref n g ih=>cases h with | ref hb hX hc ho hr=>exact .ref hb (fun hc=>hX (hx _ hc)) hc ho fun j hj=>(hr j hj).mono (fun _ _ _=>rfl) (fun b _ hb=>hx b hb) (Env.le_refl _)
 | own k off=>
  cases h with
  | own he=>
   simp only [sml]
   split
   ·rename_i i hi; exact .own (smlE_blk hi he)
   ·exact .any
 | osl k ver=>
  simp only [sml]
  split
  ·rename_i i hi
   split
   ·rename_i hb
    have hbb:=Nat.eq_of_beq_eq_true hb
    cases h with
    | osl he hs=>exact .osl (smlE_slc hi he) hs
    | oslOld he hl hs=>
     have:=hv i k (posOf_get hi) _ _ _ he
     omega
   ·exact .any
  ·exact .any
 | ownAt k ver a n off=>
  simp only [sml]
  split
  ·rename_i i hi
   split
   ·rename_i hb
    have hbb:=Nat.eq_of_beq_eq_true hb
    cases h with
    | ownAt he=>exact .ownAt (smlE_slc hi he)
    | ownAtOld he hl hs=>
     have:=hv i k (posOf_get hi) _ _ _ he
     omega
   ·exact .any
  ·exact .any
 | con=>cases h; exact .con
 | slP n g ih=>cases h with | slP hb hX hc hl ho hr=>exact .slP hb (fun hc=>hX (hx _ hc)) hc hl ho fun i hi=>ih i (hr i hi)
 | refP g ih=>cases h with | refP hb hX hc ho hr=>exact .refP hb (fun hc=>hX (hx _ hc)) hc ho (ih 0 hr)
 | ifc T g ih=>cases h with | ifc ho hr=>exact .ifc ho (ih 0 hr)
 | omap k=>
  simp only [sml]
  split
  ·rename_i i hi
   split
   ·rename_i hb
    have hbb:=Nat.eq_of_beq_eq_true hb
    cases h with
    | omap he=>exact .omap (smlE_slc hi he)
    | omapOld he hl=>
     have:=hv i k (posOf_get hi) _ _ _ he
     omega
   ·exact .any
  ·exact .any
 | nilsl=>cases h; exact .nilsl
 | slN=>exact R_slN hx h
 | win k ver n lo len=>
  simp only [sml]
  split
  ·rename_i i hi
   split
   ·rename_i hb
    have hbb:=Nat.eq_of_beq_eq_true hb
    cases h with
    | win he hl ha h0=>exact .win (smlE_slc hi he) hl ha h0
    | winOld he hl hs=>
     have:=hv i k (posOf_get hi) _ _ _ he
     omega
   ·exact .any
  ·exact .any
theorem R_big {w:World}{X X':Nat->Prop}(hx:∀ b,X' b->X b) {os:List SO}{ks:List Nat}{Es E':Env}
  (h1:∀ i k b,ks[i]?=some k->Es i=some (.blk b)->E' k=some (.blk b)) (h2:∀ i k ver v us,ks[i]?=some k->Es i=some (.slc ver v us)->E' k=some (.slc (verO (os.getD i .dead)+ver) v us))
  {s:SV}{v:Value}(h:R w X Es s v):R w X' E' (big os ks s) v:=by
 induction s generalizing v with
 | any=>exact .any
 | int=>cases h; exact .int
 | bool=>cases h; exact .bool
 | lit=>cases h; exact .lit
 | str=>cases h; exact .str
 | nilfn=>cases h; exact .nilfn
 | cap0=>cases h; exact .cap0
 | fn f n g ih=>cases h with | fn hs hr=>exact .fn hs fun i hi=>ih i (hr i hi)
 | agg n g ih=>cases h with | agg hs ho hr=>exact .agg hs ho fun i hi=>ih i (hr i hi)
 | tup n g ih=>cases h with | tup hs hr=>exact .tup hs fun i hi=>ih i (hr i hi)
 | sl len n g ih=>
  cases h with
  | sl0=>exact .sl0
  | sl hb hX hc hl ho hr=>exact .sl hb (fun hc=>hX (hx _ hc)) hc hl ho fun i j hi hj=>(hr i j hi hj).mono (fun _ _ _=>rfl) (fun b _ hb=>hx b hb) (Env.le_refl _)
 | ref n g ih=>cases h with | ref hb hX hc ho hr=>exact .ref hb (fun hc=>hX (hx _ hc)) hc ho fun j hj=>(hr j hj).mono (fun _ _ _=>rfl) (fun b _ hb=>hx b hb) (Env.le_refl _)
 | own i off=>
  cases h with
  | own he=>
   simp only [big]
   split
   ·rename_i k hk; exact .own (h1 _ _ _ hk he)
   ·exact .any
 | osl i ver=>
  simp only [big]
  split
  ·rename_i k hk
   cases h with
   | osl he hs=>exact .osl (h2 _ _ _ _ _ hk he) hs
   | oslOld he hl hs=>exact .oslOld (h2 _ _ _ _ _ hk he) (by omega) hs
  ·exact .any
 | ownAt i ver a n off=>
  simp only [big]
  split
  ·rename_i k hk
   cases h with
   | ownAt he=>exact .ownAt (h2 _ _ _ _ _ hk he)
   | ownAtOld he hl hs=>exact .ownAtOld (h2 _ _ _ _ _ hk he) (by omega) hs
  ·exact .any
 | con=>cases h; exact .con
 | slP n g ih=>cases h with | slP hb hX hc hl ho hr=>exact .slP hb (fun hc=>hX (hx _ hc)) hc hl ho fun i hi=>ih i (hr i hi)
 | refP g ih=>cases h with | refP hb hX hc ho hr=>exact .refP hb (fun hc=>hX (hx _ hc)) hc ho (ih 0 hr)
 | ifc T g ih=>cases h with | ifc ho hr=>exact .ifc ho (ih 0 hr)
 | omap i=>
  simp only [big]
  split
  ·rename_i k hk
   cases h with
   | omap he=>
    have:=h2 _ _ _ _ _ hk he
    rw [Nat.add_zero] at this
    cases hz:verO (os.getD i .dead) with
    | zero=>rw [hz] at this; exact .omap this
    | succ n=>rw [hz] at this; exact .omapOld this (Nat.succ_pos n)
   | omapOld he hl=>exact .omapOld (h2 _ _ _ _ _ hk he) (by omega)
  ·exact .any
 | nilsl=>cases h; exact .nilsl
 | slN=>exact R_slN hx h
 | win i ver n lo len=>
  simp only [big]
  split
  ·rename_i k hk
   cases h with
   | win he hl ha h0=>exact .win (h2 _ _ _ _ _ hk he) hl ha h0
   | winOld he hl hs=>exact .winOld (h2 _ _ _ _ _ hk he) (by omega) hs
  ·exact .any
def objsAt (H:List SO) (ks:List Nat):List SO:=ks.map fun k=>H.getD k .dead
theorem objsAt_get {H:List SO}{ks:List Nat}{i k:Nat}(h:ks[i]?=some k):(objsAt H ks).getD i .dead=H.getD k .dead:=by
 rw [objsAt,List.getD_eq_getElem?_getD,List.getElem?_map,h]; rfl
theorem Rep.verOK {w0 X0 H E w} (h:Rep w0 X0 H E w) {ks:List Nat}(ha:(objsAt H ks).all aliveB=true):VerOK (objsAt H ks) E ks:=by
 intro i k hk ver v us he
 have hok:=h.ok k _ he
 rw [objsAt_get hk]
 have hal:aliveB (H.getD k .dead)=true:=List.all_eq_true.1 ha _ (List.mem_map.2 ⟨k,List.mem_of_getElem? hk,rfl⟩)
 generalize H.getD k .dead=so at *
 cases so with
 | dead=>cases hal
 | cells=>exact hok.elim
 | scells=>exact hok.elim
 | row=>exact hok.1.symm
 | srow=>exact hok.1.symm
 | deep=>exact hok.1.symm
 | mpi=>exact hok.1.symm
 | mps=>exact hok.1.symm
theorem nameOf_known {w X E s v k} (h:R w X E s v) (hn:nameOf s=some k):E k≠none:=by
 cases h<;>simp only [nameOf,reduceCtorEq,Option.some.injEq] at hn
 all_goals (subst hn; rename_i he; first | (rw [he]; simp; done) | skip)
 all_goals (intro hc; simp_all)
theorem nameAt_known {w0 X0 H E w} (h:Rep w0 X0 H E w) {args:List SV}{vals:Array Value}(ha:ArgsR w (Xo X0 E H) E args vals) {ks:List Nat}(hk:∀ k∈ks,E k≠none) {p:NP}(hp:holeP H ks p) {k:Nat}(hn:nameAt H args ks p=some k):E k≠none:=by
 cases p with
 | arg i=>
  simp only [nameAt] at hn
  obtain ⟨hi,hn⟩:=ite_none hn
  exact nameOf_known (ha.2 i hi) hn
 | part i j=>
  simp only [nameAt] at hn
  obtain ⟨hi,hn⟩:=ite_none hn
  have hr:=ha.2 i hi
  generalize args.getD i .any=s at hr hn
  generalize vals.getD i undef=v at hr
  cases hr<;>simp only [subS,reduceCtorEq] at hn
  ·rename_i n g vs hs hr
   by_cases hj:j<n
   ·rw [if_pos hj] at hn; exact nameOf_known (hr j hj) hn
   ·rw [if_neg hj] at hn; cases hn
  ·rename_i n g vs hs ho hr
   by_cases hj:j<n
   ·rw [if_pos hj] at hn; exact nameOf_known (hr j hj) hn
   ·rw [if_neg hj] at hn; cases hn
  ·rename_i n g b o cap c T fr hb hX hc hl ho hr
   by_cases hj:j<n
   ·rw [if_pos hj] at hn; exact nameOf_known (hr j hj) hn
   ·rw [if_neg hj] at hn; cases hn
 | cell o j=>
  simp only [nameAt] at hn
  split at hn
  case h_2=>cases hn
  rename_i k0 hk0
  have hkn:=hk k0 (List.mem_of_getElem? hk0)
  split at hn
  case h_2=>cases hn
  rename_i n g T hso
  obtain ⟨hj,hn⟩:=ite_none hn
  cases he:E k0 with
  | none=>exact absurd he hkn
  | some e=>
   have hok:=h.ok k0 e he
   rw [hso] at hok
   cases e with
   | slc=>exact hok.elim
   | blk b=>
    obtain ⟨vs,_,_,h3⟩:=hok
    exact nameOf_known (h3 j hj).2 hn
 | hole o=>
  simp only [nameAt] at hn
  split at hn
  case h_2=>cases hn
  rename_i k0 hk0
  have hkn:=hk k0 (List.mem_of_getElem? hk0)
  split at hn
  case h_2=>cases hn
  rename_i ver len n c m p g T T' ho hso
  split at hn
  case h_2=>cases hn
  rename_i q
  simp only [holeP,hk0,hso] at hp
  cases he:E k0 with
  | none=>exact absurd he hkn
  | some e=>
   have hok:=h.ok k0 e he
   rw [hso] at hok
   cases e with
   | blk b=>exact hok.elim
   | slc ver' v us=>
    obtain ⟨_,xs,d⟩:=hok
    exact nameOf_known (d.out q.1 q.2 hp.out (by unfold hoAt; simp)).2 hn
theorem namesOf_pre {H:List SO}{args:List SV}:∀ (ps:List NP) (ks ks':List Nat),namesOf H args ps ks=some ks'->∀ (o k:Nat),ks[o]?=some k->ks'[o]?=some k
 | [],ks,ks',hn,o,k,h=>by simp only [namesOf,Option.some.injEq] at hn; subst hn; exact h
 | p::r,ks,ks',hn,o,k,h=>by
  simp only [namesOf] at hn
  split at hn
  case h_2=>cases hn
  exact namesOf_pre r _ ks' hn o k (by rw [List.getElem?_append_left (List.getElem?_eq_some_iff.1 h).1]; exact h)
theorem holeP_pre {H:List SO}{ks ks':List Nat}{p:NP}(h:∀ (o k:Nat),ks[o]?=some k->ks'[o]?=some k) (hp:holeP H ks' p):holeP H ks p:=by
 cases p with
 | hole o=>
  simp only [holeP] at hp ⊢
  cases hk:ks[o]? with
  | none=>trivial
  | some k=>rw [h o k hk] at hp; exact hp
 | _=>trivial
theorem namesOf_known {w0 X0 H E w} (h:Rep w0 X0 H E w) {args:List SV}{vals:Array Value}(ha:ArgsR w (Xo X0 E H) E args vals):∀ (ps:List NP) (ks ks':List Nat),(∀ k∈ks,E k≠none)->holesP H ks' ps->namesOf H args ps ks=some ks'->(∀ k∈ks',E k≠none)/\ks'.length=ks.length+ps.length
 | [],ks,ks',hk,_,hn=>by simp only [namesOf,Option.some.injEq] at hn; subst hn; exact ⟨hk,rfl⟩
 | p::r,ks,ks',hk,hq,hn=>by
  simp only [namesOf] at hn
  split at hn
  case h_2=>cases hn
  rename_i k hk1
  obtain ⟨h1,h2⟩:=namesOf_known h ha r (ks++[k]) ks' (fun k' hm=>by
   rcases List.mem_append.1 hm with hm | hm
   ·exact hk k' hm
   ·rw [List.mem_singleton.1 hm]; exact nameAt_known h ha hk (holeP_pre (fun o k' h'=>namesOf_pre r _ ks' hn o k' (by rw [List.getElem?_append_left (List.getElem?_eq_some_iff.1 h').1]; exact h')) hq.1) hk1) hq.2 hn
  exact ⟨h1,by rw [h2]; simp; omega⟩
theorem nameAt_ext {H HF:List SO}(he:Ext H HF) {args:List SV}{ks:List Nat}{p:NP}{k:Nat}(hn:nameAt H args ks p=some k):nameAt HF args ks p=some k:=by
 cases p with
 | arg=>exact hn
 | part=>exact hn
 | cell o j=>
  simp only [nameAt] at hn ⊢
  split at hn
  case h_2=>cases hn
  rename_i k0 hk0
  split at hn
  case h_2=>cases hn
  rename_i n g T hso
  have:HF.getD k0 .dead=H.getD k0 .dead:=he k0 (by rw [hso]; simp)
  simp only [this,hso]
  exact hn
 | hole o=>
  simp only [nameAt] at hn ⊢
  split at hn
  case h_2=>cases hn
  rename_i k0 hk0
  split at hn
  case h_2=>cases hn
  rename_i hso
  have:HF.getD k0 .dead=H.getD k0 .dead:=he k0 (by rw [hso]; simp)
  simp only [this,hso]
  exact hn
theorem namesOf_ext {H HF:List SO}(he:Ext H HF) {args:List SV}:∀ (ps:List NP) (ks ks':List Nat),namesOf H args ps ks=some ks'->namesOf HF args ps ks=some ks'
 | [],ks,ks',hn=>hn
 | p::r,ks,ks',hn=>by
  simp only [namesOf] at hn ⊢
  split at hn
  case h_2=>cases hn
  rename_i k hk1
  rw [nameAt_ext he hk1]
  exact namesOf_ext he r _ ks' hn
theorem objsAt_ext {H HF:List SO}(he:Ext H HF) {ks:List Nat}(ha:(objsAt H ks).all aliveB=true):objsAt HF ks=objsAt H ks:=by
 refine List.map_congr_left fun k hk=>he k fun hc=>?_
 have:=List.all_eq_true.1 ha _ (List.mem_map.2 ⟨k,hk,rfl⟩)
 rw [hc] at this
 cases this
def HeldBy (H:List SO) (E:Env) (ks:List Nat) (b:Nat):Prop:=∃ k∈ks,∃ e,E k=some e/\holds e (H.getD k .dead) b
def smlF (X0:Fr) (H:List SO) (E:Env) (ks:List Nat):Fr:=⟨fun b=>Xo X0 E H b/\¬ HeldBy H E ks b,HeldBy H E ks,smlE E ks,true⟩
theorem holds_sml {os ks} (_:EI) (so:SO) (v:Value) (us:Nat->Option Nat) (ver:Nat):holds (.slc 0 v us) (smlO os ks so)=holds (.slc ver v us) so:=by
 cases so<;>first | rfl | skip
 ·funext b
  simp only [smlO,holds,hoAt_map_none]
 ·funext b
  simp only [smlO,holds,hoI_map_none]
theorem smlE_holds {os H E ks i e b} (h:smlE E ks i=some e) (hb:holds e ((List.map (smlO os ks) (objsAt H ks)).getD i .dead) b):∃ k e0,ks[i]?=some k/\E k=some e0/\holds e0 (H.getD k .dead) b:=by
 obtain ⟨k,hk,h2⟩:=smlE_inv h
 have hget:(List.map (smlO os ks) (objsAt H ks)).getD i .dead=smlO os ks (H.getD k .dead):=by
  rw [List.getD_eq_getElem?_getD,List.getElem?_map,objsAt,List.getElem?_map,hk]; rfl
 rw [hget] at hb
 rcases h2 with ⟨b0,he,rfl⟩ | ⟨ver,v,us,he,rfl⟩
 ·refine ⟨k,_,hk,he,?_⟩
  generalize H.getD k .dead=so at *
  cases so<;>simp only [smlO,holds] at hb ⊢<;>first | exact hb | cases hb
 ·exact ⟨k,_,hk,he,by rw [<-holds_sml (os:=os) (ks:=ks) (.slc 0 v us) _ v us ver]; exact hb⟩
theorem EIok_sml {w X X' E} (hx:∀ b,X' b->X b) {os ks} (hv:VerOK os E ks) {so:SO}:(∀ {b},EIok w X E (.blk b) so->EIok w X' (smlE E ks) (.blk b) (smlO os ks so))/\(∀ {ver v us},EIok w X E (.slc ver v us) so->EIok w X' (smlE E ks) (.slc 0 v us) (smlO os ks so)):=by
 have weak:∀ {s:SV}{v:Value},R w X E0 s v->R w X' E0 s v:=fun h=>h.mono (fun _ _ _=>rfl) (fun b _ hb=>hx b hb) (Env.le_refl _)
 constructor
 ·intro b h
  cases so with
  | dead=>trivial
  | cells n g T=>
   obtain ⟨vs,h1,h2,h3⟩:=h
   exact ⟨vs,h1,h2,fun i hi=>⟨(h3 i hi).1,R_sml hx hv (h3 i hi).2⟩⟩
  | scells n g=>
   obtain ⟨vs,T,fr,h1,h2,h3,h4⟩:=h
   exact ⟨vs,T,fr,h1,fun hc=>h2 (hx _ hc),h3,fun i hi=>⟨(h4 i hi).1,weak (h4 i hi).2⟩⟩
  | row=>exact h
  | srow=>exact h
  | deep=>exact h
  | mpi=>exact h
  | mps=>exact h
 ·intro ver v us h
  cases so with
  | dead=>trivial
  | cells=>exact h
  | scells=>exact h
  | mpi kk tot has val=>
   obtain ⟨_,b,es,clock,h1,h2,h3⟩:=h
   exact ⟨rfl,b,es,clock,h1,h2,h3.over hx⟩
  | mps kd has c m p T' ho=>
   obtain ⟨_,b,es,clock,h1,h2,d⟩:=h
   exact ⟨rfl,b,es,clock,h1,h2,d.over hx _ fun s u hu=>R_sml hx hv hu⟩
  | row=>
   obtain ⟨_,xs,h2,h3⟩:=h
   exact ⟨rfl,xs,h2,fun i j hi hj=>⟨(h3 i j hi hj).1,weak (h3 i j hi hj).2⟩⟩
  | srow=>exact ⟨rfl,weak h.2⟩
  | deep ver' len n c m p g T T' ho=>
   obtain ⟨_,xs,d⟩:=h
   refine ⟨rfl,xs,d.map hx (fun i hi=>by rwa [hoAt_map_none] at hi) (fun i sv' hi=>?_)⟩
   rw [hoAt_map] at hi
   cases hh:hoAt ho i with
   | none=>rw [hh] at hi; cases hi
   | some sv=>
    rw [hh] at hi
    cases hi
    exact ⟨sv,rfl,fun u hu=>R_sml hx hv hu⟩
theorem Rep.sml {w0 X0 H E w} (h:Rep w0 X0 H E w) {ks:List Nat}(hn:nodupB ks=true) (ha:(objsAt H ks).all aliveB=true) :
  Rep w (smlF X0 H E ks) ((objsAt H ks).map (smlO (objsAt H ks) ks)) (smlE E ks) w/\∀ b,Xo (smlF X0 H E ks) (smlE E ks) ((objsAt H ks).map (smlO (objsAt H ks) ks)) b->Xo X0 E H b:=by
 have hv:=h.verOK ha
 have hx:∀ b,Xo (smlF X0 H E ks) (smlE E ks) ((objsAt H ks).map (smlO (objsAt H ks) ks)) b->Xo X0 E H b:=by
  rintro b (hb | ⟨i,e,he,hh⟩)
  ·exact hb.1
  ·obtain ⟨k,e0,hk,he0,hh0⟩:=smlE_holds he hh
   exact .inr ⟨k,e0,he0,hh0⟩
 refine ⟨⟨Bel.refl _ _,fun b hb=>⟨h.xlt b hb.1,hb.2⟩,fun i e he=>?_,fun i e he=>?_,fun i e he=>?_,fun i e b he hb=>?_,fun i i' e e' b he he' hb hb'=>?_⟩,hx⟩
 ·have he':smlE E ks i=some e:=he
  obtain ⟨k,hk,h2⟩:=smlE_inv he'
  rcases h2 with ⟨b,hb,rfl⟩ | ⟨ver,v,us,hv,rfl⟩
  ·exact he'
  ·exact ⟨0,v,us,he',fun _=>rfl⟩
 ·obtain ⟨k,hk,_⟩:=smlE_inv he
  rw [List.length_map,objsAt,List.length_map]
  exact (List.getElem?_eq_some_iff.1 hk).1
 ·obtain ⟨k,hk,h2⟩:=smlE_inv he
  have hget:(List.map (smlO (objsAt H ks) ks) (objsAt H ks)).getD i .dead=smlO (objsAt H ks) ks (H.getD k .dead):=by
   rw [List.getD_eq_getElem?_getD,List.getElem?_map,objsAt,List.getElem?_map,hk]; rfl
  rw [hget]
  rcases h2 with ⟨b,hb,rfl⟩ | ⟨ver,v,us,hb,rfl⟩
  ·exact (EIok_sml hx hv).1 (h.ok k _ hb)
  ·exact (EIok_sml hx hv).2 (h.ok k _ hb)
 ·obtain ⟨k,e0,hk,he0,hh0⟩:=smlE_holds he hb
  exact .inr ⟨k,List.mem_of_getElem? hk,e0,he0,hh0⟩
 ·obtain ⟨k,e0,hk,he0,hh0⟩:=smlE_holds he hb
  obtain ⟨k',e1,hk',he1,hh1⟩:=smlE_holds he' hb'
  have:=h.inj k k' e0 e1 b he0 he1 hh0 hh1
  subst this
  have h1:=posOf_of hn hk
  rw [posOf_of hn hk'] at h1
  exact (Option.some.inj h1).symm
end Go.Proofs.YtmhofgchidojoaaGreat.Sx
namespace Go.Proofs.YtmhofgchidojoaaGreat.Sx
open Go.RowKit
def bigE (os:List SO) (ks:List Nat) (E Es:Env):Env:=fun k=>match posOf ks k with
 | some i=>match Es i with
  | some (.blk b)=>some (.blk b)
  | some (.slc ver v us)=>some (.slc (verO (os.getD i .dead)+ver) v us)
  | none=>none
 | none=>E k
theorem bigE_blk {os ks E Es k i b} (h:posOf ks k=some i) (he:Es i=some (.blk b)):bigE os ks E Es k=some (.blk b):=by simp only [bigE,h,he]
theorem bigE_slc {os ks E Es k i ver v us} (h:posOf ks k=some i) (he:Es i=some (.slc ver v us)):bigE os ks E Es k=some (.slc (verO (os.getD i .dead)+ver) v us):=by simp only [bigE,h,he]
theorem bigE_out {os ks E Es k} (h:posOf ks k=none):bigE os ks E Es k=E k:=by simp only [bigE,h]
theorem bigE_inv {os ks E Es k e} (h:bigE os ks E Es k=some e):(posOf ks k=none/\E k=some e)\/∃ i,posOf ks k=some i/\((∃ b,Es i=some (.blk b)/\e = .blk b)\/∃ ver v us,Es i=some (.slc ver v us)/\e = .slc (verO (os.getD i .dead)+ver) v us):=by
 simp only [bigE] at h
 split at h
 ·rename_i i hi
  split at h
  ·rename_i b hb; cases h; exact .inr ⟨i,hi,.inl ⟨b,hb,rfl⟩⟩
  ·rename_i ver v us hv; cases h; exact .inr ⟨i,hi,.inr ⟨ver,v,us,hv,rfl⟩⟩
  ·cases h
 ·rename_i hi; exact .inl ⟨hi,h⟩
theorem holds_big {os ks v0} (so:SO):(∀ b,holds (.blk b) (bigO os ks v0 so)=holds (.blk b) so)/\∀ v us ver ver',holds (.slc ver' v us) (bigO os ks v0 so)=holds (.slc ver v us) so:=by
 constructor
 ·intro b; cases so<;>rfl
 ·intro v us ver ver'
  cases so<;>first | rfl | skip
  ·funext b
   simp only [bigO,holds,hoAt_map_none]
  ·funext b
   simp only [bigO,holds,hoI_map_none]
theorem Env.le_of {E E':Env}(h1:∀ k b,E k=some (.blk b)->E' k=some (.blk b)) (h2:∀ k ver v us,E k=some (.slc ver v us)->∃ ver' v' us',E' k=some (.slc ver' v' us')/\ver<=ver'/\(ver=ver'->v=v')):E.le E':=⟨h1,h2⟩
theorem Goes.of_sml {w0 X0 H E w nm} (h:Rep w0 X0 H E w) {ks:List Nat}(hn:nodupB ks=true) (hkn:∀ k∈ks,E k≠none) (ha:(objsAt H ks).all aliveB=true) {post:List SO}{Es:Env}{w':World}
  (hs:Rep w (smlF X0 H E ks) post Es w') {res:SV}{v:Value}(hr:R w' (Xo (smlF X0 H E ks) Es post) Es res v) :
  Goes w0 X0 H E w nm (.sets (setsOf (objsAt H ks) ks post ks 0)) (big (objsAt H ks) ks res) v w':=by
 have hkl:∀ k∈ks,k<H.length:=fun k hk=>by
  cases he:E k with
  | none=>exact absurd he (hkn k hk)
  | some e=>exact h.dom k e he
 have hv:=h.verOK ha
 obtain ⟨hlen,hget⟩:=applyS_sets (os:=objsAt H ks) (ks:=ks) (post:=post) ks 0 H hn hkl
 have getIn:∀ {k i},posOf ks k=some i->(applyS H (setsOf (objsAt H ks) ks post ks 0)).getD k .dead=bigO (objsAt H ks) ks (verO ((objsAt H ks).getD i .dead)) (post.getD i .dead):=fun hp=>by rw [hget,hp]; simp only [Nat.zero_add]
 have getOut:∀ {k},posOf ks k=none->(applyS H (setsOf (objsAt H ks) ks post ks 0)).getD k .dead=H.getD k .dead:=fun hp=>by rw [hget,hp]
 have le:E.le (bigE (objsAt H ks) ks E Es):=by
  refine Env.le_of (fun k b he=>?_) fun k ver v us he=>?_
  ·cases hp:posOf ks k with
   | none=>rw [bigE_out hp]; exact he
   | some i=>exact bigE_blk hp (hs.nm i _ (smlE_blk hp he))
  ·cases hp:posOf ks k with
   | none=>exact ⟨ver,v,us,by rw [bigE_out hp]; exact he,Nat.le_refl _,fun _=>rfl⟩
   | some i=>
    obtain ⟨ver',v',us',h3,h4⟩:=hs.nm i _ (smlE_slc hp he)
    have hvk:=hv i k (posOf_get hp) ver v us he
    exact ⟨_,v',us',bigE_slc hp h3,by omega,fun hc=>(h4 (by omega)).symm⟩
 have held:∀ {i k e b},posOf ks k=some i->bigE (objsAt H ks) ks E Es k=some e->holds e ((applyS H (setsOf (objsAt H ks) ks post ks 0)).getD k .dead) b->∃ e0,Es i=some e0/\holds e0 (post.getD i .dead) b:=by
  intro i k e b hp he hb
  rw [getIn hp] at hb
  rcases bigE_inv he with ⟨hno,_⟩ | ⟨i',hp',h2⟩
  ·rw [hp] at hno; cases hno
  ·rw [hp] at hp'
   cases hp'
   rcases h2 with ⟨b0,he0,rfl⟩ | ⟨ver,v,us,he0,rfl⟩
   ·exact ⟨_,he0,by rw [(holds_big _).1] at hb; exact hb⟩
   ·exact ⟨_,he0,by rw [(holds_big _).2 v us ver] at hb; exact hb⟩
 have out:∀ {k e b},posOf ks k=none->E k=some e->holds e (H.getD k .dead) b->¬ HeldBy H E ks b:=by
  rintro k e b hp he hb ⟨k',hk',e',he',hb'⟩
  have:=h.inj k k' e e' b he he' hb hb'
  subst this
  exact posOf_none hp hk'
 have x0d:∀ {b},X0.x b->¬ HeldBy H E ks b:=by
  rintro b hb ⟨k',hk',e',he',hb'⟩
  have h1:=h.x0 b hb
  rcases h.low k' e' b he' hb' with h2 | h2
  ·omega
  ·exact h1.2 h2
 have keep:∀ b,b<w.heap.size->¬ HeldBy H E ks b->w'.heap[b]?=w.heap[b]?:=fun b hlt hd=>hs.below.block b hlt hd
 have lowS:∀ {i e b},Es i=some e->holds e (post.getD i .dead) b->w.heap.size<=b\/HeldBy H E ks b:=fun he hb=>hs.low _ _ _ he hb
 have hx:∀ b,Xo X0 (bigE (objsAt H ks) ks E Es) (applyS H (setsOf (objsAt H ks) ks post ks 0)) b->Xo (smlF X0 H E ks) Es post b:=by
  rintro b (hb | ⟨k,e,he,hb⟩)
  ·exact .inl ⟨.inl hb,x0d hb⟩
  ·cases hp:posOf ks k with
   | none=>
    rw [bigE_out hp] at he
    rw [getOut hp] at hb
    exact .inl ⟨.inr ⟨k,e,he,hb⟩,out hp he hb⟩
   | some i=>
    obtain ⟨e0,h1,h2⟩:=held hp he hb
    exact .inr ⟨i,e0,h1,h2⟩
 have hke:Keeps (Xo X0 E H) w w':=fun b hlt hX=>keep b hlt fun ⟨k,_,e,he,hb⟩=>hX (.inr ⟨k,e,he,hb⟩)
 have hwi:Within (Xo X0 E H) (Xo X0 (bigE (objsAt H ks) ks E Es) (applyS H (setsOf (objsAt H ks) ks post ks 0))) w:=by
  rintro b hlt (hb | ⟨k,e,he,hb⟩)
  ·exact .inl hb
  ·cases hp:posOf ks k with
   | none=>
    rw [bigE_out hp] at he
    rw [getOut hp] at hb
    exact .inr ⟨k,e,he,hb⟩
   | some i=>
    obtain ⟨e0,h1,h2⟩:=held hp he hb
    rcases lowS h1 h2 with h3 | ⟨k',_,e',he',hb'⟩
    ·omega
    ·exact .inr ⟨k',e',he',hb'⟩
 have hbig:∀ {s:SV}{u:Value},R w' (Xo (smlF X0 H E ks) Es post) Es s u->R w' (Xo X0 (bigE (objsAt H ks) ks E Es) (applyS H (setsOf (objsAt H ks) ks post ks 0))) (bigE (objsAt H ks) ks E Es) (big (objsAt H ks) ks s) u:=fun hr=>
  R_big hx (fun i k b hk he=>bigE_blk (posOf_of hn hk) he) (fun i k ver v us hk he=>bigE_slc (posOf_of hn hk) he) hr
 have weak:∀ {s:SV}{u:Value},R w' (Xo (smlF X0 H E ks) Es post) E0 s u->R w' (Xo X0 (bigE (objsAt H ks) ks E Es) (applyS H (setsOf (objsAt H ks) ks post ks 0))) E0 s u:=fun hr=>hr.mono (fun _ _ _=>rfl) (fun b _ hb=>hx b hb) (Env.le_refl _)
 refine ⟨bigE (objsAt H ks) ks E Es,le,hke,hwi,⟨?_,h.x0,fun k e hk=>(h.nm k e hk).le le,fun k e he=>?_,fun k e he=>?_,fun k e b he hb=>?_,fun k k' e e' b he he' hb hb'=>?_⟩,hbig hr,fun k hk=> .inl fun hc=>hk ?_⟩
 ·refine ⟨hs.below.os.trans h.below.os,hs.below.tape.trans h.below.tape,hs.below.output.trans h.below.output,Nat.le_trans h.below.size hs.below.size,fun b hlt hd=>?_⟩
  refine (keep b (Nat.lt_of_lt_of_le hlt h.below.size) fun ⟨k,_,e,he,hb⟩=>?_).trans (h.below.block b hlt hd)
  rcases h.low k e b he hb with h2 | h2
  ·omega
  ·exact hd h2
 ·show k<(applyS H (setsOf (objsAt H ks) ks post ks 0)).length
  rw [hlen]
  cases hp:posOf ks k with
  | none=>rw [bigE_out hp] at he; exact h.dom k e he
  | some i=>exact hkl k (posOf_mem hp)
 ·show EIok w' _ _ e ((applyS H (setsOf (objsAt H ks) ks post ks 0)).getD k .dead)
  rcases bigE_inv he with ⟨hp,he0⟩ | ⟨i,hp,h2⟩
  ·rw [getOut hp]
   exact (h.ok k e he0).mono hke hwi le fun b hb=>keep b (holds_lt (h.ok k e he0) hb) (out hp he0 hb)
  ·rw [getIn hp]
   rcases h2 with ⟨b0,he0,rfl⟩ | ⟨ver,v,us,he0,rfl⟩
   ·have hok:=hs.ok i _ he0
    generalize post.getD i .dead=so at hok
    cases so with
    | dead=>trivial
    | cells n g T=>
     obtain ⟨vs,h1,h2,h3⟩:=hok
     exact ⟨vs,h1,h2,fun j hj=>⟨(h3 j hj).1,hbig (h3 j hj).2⟩⟩
    | scells n g=>
     obtain ⟨vs,T,fr,h1,h2,h3,h4⟩:=hok
     exact ⟨vs,T,fr,h1,fun hc=>h2 (hx _ hc),h3,fun j hj=>⟨(h4 j hj).1,weak (h4 j hj).2⟩⟩
    | row=>exact hok
    | srow=>exact hok
    | deep=>exact hok
    | mpi=>exact hok
    | mps=>exact hok
   ·have hok:=hs.ok i _ he0
    have hverm:∀ b0,ver=0->v = .map (some b0)->verO ((objsAt H ks).getD i .dead)+ver=0:=fun b0 hz hvm=>by
     subst hz
     subst hvm
     have hki:=posOf_get hp
     cases hEk:E k with
     | none=>exact absurd hEk (hkn k (posOf_mem hp))
     | some e0=>
      have halk:aliveB (H.getD k .dead)=true:=List.all_eq_true.1 ha _ (List.mem_map.2 ⟨k,posOf_mem hp,rfl⟩)
      cases e0 with
      | blk b1=>
       have:=hs.nm i _ (smlE_blk hp hEk)
       rw [he0] at this
       cases this
      | slc ver1 v1 us1=>
       obtain ⟨ver2,v2,us2,g1,g2⟩:=hs.nm i _ (smlE_slc hp hEk)
       rw [he0] at g1
       cases g1
       have hv1:=g2 rfl
       subst hv1
       have hz1:=EIok_mapver (h.ok k _ hEk) halk
       have:=h.verOK ha i k hki _ _ _ hEk
       omega
    generalize post.getD i .dead=so at hok
    cases so with
    | dead=>trivial
    | cells=>exact hok
    | scells=>exact hok
    | mpi kk tot has val=>
     obtain ⟨hz,b1,es,clock,h1,h2,h3⟩:=hok
     exact ⟨hverm b1 hz h1,b1,es,clock,h1,h2,h3.over hx⟩
    | mps kd has c m p T' ho=>
     obtain ⟨hz,b1,es,clock,h1,h2,d⟩:=hok
     exact ⟨hverm b1 hz h1,b1,es,clock,h1,h2,d.over hx _ fun s u hu=>hbig hu⟩
    | row ver' len n g T=>
     obtain ⟨rfl,xs,h2,h3⟩:=hok
     exact ⟨rfl,xs,h2,fun i j hi hj=>⟨(h3 i j hi hj).1,weak (h3 i j hi hj).2⟩⟩
    | srow ver' len n g=>
     obtain ⟨rfl,h2⟩:=hok
     exact ⟨rfl,weak h2⟩
    | deep ver' len n c m p g T T' ho=>
     obtain ⟨rfl,xs,d⟩:=hok
     refine ⟨rfl,xs,d.map hx (fun i hi=>by rwa [hoAt_map_none] at hi) (fun i sv' hi=>?_)⟩
     rw [hoAt_map] at hi
     cases hh:hoAt ho i with
     | none=>rw [hh] at hi; cases hi
     | some sv=>
      rw [hh] at hi
      cases hi
      exact ⟨sv,rfl,fun u hu=>hbig hu⟩
 ·have hb':holds e ((applyS H (setsOf (objsAt H ks) ks post ks 0)).getD k .dead) b:=hb
  cases hp:posOf ks k with
  | none=>
   rw [bigE_out hp] at he
   rw [getOut hp] at hb'
   exact h.low k e b he hb'
  | some i=>
   obtain ⟨e0,h1,h2⟩:=held hp he hb'
   rcases lowS h1 h2 with h3 | ⟨k',_,e',he',hb''⟩
   ·exact .inl (Nat.le_trans h.below.size h3)
   ·exact h.low k' e' b he' hb''
 ·have hb1:holds e ((applyS H (setsOf (objsAt H ks) ks post ks 0)).getD k .dead) b:=hb
  have hb2:holds e' ((applyS H (setsOf (objsAt H ks) ks post ks 0)).getD k' .dead) b:=hb'
  have mixed:∀ {k k' e e' i},posOf ks k=none->E k=some e->holds e (H.getD k .dead) b->posOf ks k'=some i->bigE (objsAt H ks) ks E Es k'=some e'->holds e' ((applyS H (setsOf (objsAt H ks) ks post ks 0)).getD k' .dead) b->False:=by
   intro k k' e e' i hp he hb hp' he' hb'
   obtain ⟨e0,h1,h2⟩:=held hp' he' hb'
   rcases lowS h1 h2 with h3 | h3
   ·have:=holds_lt (h.ok k e he) hb
    omega
   ·exact out hp he hb h3
  cases hp:posOf ks k with
  | none=>
   rw [bigE_out hp] at he
   rw [getOut hp] at hb1
   cases hp':posOf ks k' with
   | none=>
    rw [bigE_out hp'] at he'
    rw [getOut hp'] at hb2
    exact h.inj k k' e e' b he he' hb1 hb2
   | some i'=>exact (mixed hp he hb1 hp' he' hb2).elim
  | some i=>
   cases hp':posOf ks k' with
   | none=>
    rw [bigE_out hp'] at he'
    rw [getOut hp'] at hb2
    exact (mixed hp' he' hb2 hp he hb1).elim
   | some i'=>
    obtain ⟨e0,h1,h2⟩:=held hp he hb1
    obtain ⟨e1,h3,h4⟩:=held hp' he' hb2
    have:=hs.inj i i' e0 e1 b h1 h3 h2 h4
    subst this
    exact posOf_inj hp hp'
 ·cases hp:posOf ks k with
  | none=>rw [bigE_out hp]; exact hc
  | some i=>exact absurd hc (hkn k (posOf_mem hp))
def argLe (l:List SV) (os:List SO) (a:List SV) (o:List SO):Prop:=match Nat.beq l.length a.length with
 | true=>withNm os.length os o (StLe ⟨argsT 0 l,os⟩ ⟨argsT 0 a,o⟩)
 | false=>False
def mkSpecM (f:FuncId) (paths:List NP) {γ:Type}(dec:List SV->List SO->Option γ) (args:γ->List SV) (objs:γ->List SO) (pre:γ->Prop) (res:γ->SV) (post:γ->List SO):FSpec:=
 ⟨f,true,fun l H _=>match namesOf H l paths [] with
  | some ks=>match nodupB ks&&(objsAt H ks).all aliveB with
   | true=>match dec (l.map (sml (objsAt H ks) ks)) ((objsAt H ks).map (smlO (objsAt H ks) ks)) with
    | some g=>some ⟨withHoles (objsAt H ks) paths (argLe (l.map (sml (objsAt H ks) ks)) ((objsAt H ks).map (smlO (objsAt H ks) ks)) (args g) (objs g)/\Ask (pre g)),big (objsAt H ks) ks (res g),.sets (setsOf (objsAt H ks) ks (post g) ks 0)⟩
    | none=>none
   | false=>none
  | none=>none⟩
def vcResM (P:Program) (fn:Func) (m:Nat) (own:Bool) (res:SV) (post:List SO) (s:St):Prop:=
 match resS P fn.ntmps s fn.results.toList with
 | some (p,l)=>p/\match own with
  | true=>withNm m s.H post (StLe ⟨[(0,oneOf l)],s.H⟩ ⟨[(0,res)],post⟩)
  | false=>match frzAll s.H (needs s.H 6 (oneOf l)) with
   | some fl=>forceH (applyS s.H fl) fun H=>match pur H 6 (oneOf l) with
    | some v=>withNm m H post (StLe ⟨[(0,v)],H⟩ ⟨[(0,res)],post⟩)
    | none=>False
   | none=>False
 | none=>False
def retM (P:Program) (fn:Func) (m:Nat) (own:Bool) (res:SV) (post:List SO):SK
 | .exit _,_=>False
 | _,s=>vcResM P fn m own res post s
theorem resM_sound {P:Program}{fn:Func}{m:Nat}{own:Bool}{res:SV}{post:List SO}{s:St}{w0 X0 a w} (hk:vcResM P fn m own res post s) (hnm:∀ k,X0.nm k≠none->k<m) (hs:StR w0 X0 fn.ntmps s a w) :
  ∃ v Es,(results fn a.tmps).run P w = .ok v w/\Rep w0 X0 post Es w/\R w (Xo X0 Es post) Es res v:=by
 obtain ⟨E,hrep,htr⟩:=hs
 unfold vcResM at hk
 split at hk
 case h_2=>exact hk.elim
 rename_i p l hres
 obtain ⟨hp,hk⟩:=hk
 obtain ⟨v,hv1,hv2⟩:=results_sound rfl hrep htr hres hp
 have fin:∀ {H:List SO}{sv:SV},Rep w0 X0 H E w->R w (Xo X0 E H) E sv v->withNm m H post (StLe ⟨[(0,sv)],H⟩ ⟨[(0,res)],post⟩)->∃ v Es,(results fn a.tmps).run P w = .ok v w/\Rep w0 X0 post Es w/\R w (Xo X0 Es post) Es res v:=by
  intro H sv hrep hr hle
  obtain ⟨h1,h2⟩:=hle.get
  obtain ⟨h3,h4⟩:=hrep.le h2.2 hnm h1
  have:=SVle_sound h4 (fun k ver v us he ver' hr=>EIok_ver (hrep.ok k _ he) hr) (tmpLe_get h2.1 0) hr
  exact ⟨v,_,hv1,h3,this⟩
 split at hk
 ·exact fin hrep hv2 hk
 ·split at hk
  case h_2=>exact hk.elim
  rename_i fl hfl
  rw [forceH_eq] at hk
  split at hk
  case h_2=>exact hk.elim
  rename_i sv hsv
  obtain ⟨g1,g2⟩:=frzAll_sound _ _ _ hrep hfl
  exact fin g1 (up (pur_sound g1 6 _ _ _ hsv (hv2.mono (fun _ _ _=>rfl) g2 (Env.le_refl _)))) hk
theorem spec_soundMG {Γ:World->Fr->Prop}(hG:∀ {w0 X0 H E w ks},Γ w0 X0->Rep w0 X0 H E w->Γ w (smlF X0 H E ks)) {P:Program}{specs:List FSpec}(hspecs:∀ s∈specs,SpecG Γ P s) {eqs:List (TypeId×List CK)}(heqs:∀ t n,(t,n)∈eqs->EqOK P t n) (hm:P.follows .mixedOrders=true)
  {f:FuncId}{fn:Func}{body:Code}(hf:P.funcs[f]?=some fn) (hb:fn.body=some body) (_:codeB (effS specs) body=true) (hN:(∀ w0 X0,Γ w0 X0)\/noRF body=true) (hent:∀ args w,(callFunc f args).run P w = .ok (.enter f args) w)
  {paths:List NP}{γ:Type}{dec:List SV->List SO->Option γ}{args:γ->List SV}{objs:γ->List SO}{pre:γ->Prop}{res:γ->SV}{post:γ->List SO}(A:γ->Ann) (own:Bool) (hlen:∀ g,(args g).length<=fn.ntmps)
  (h:∀ g,pre g->vc P specs eqs fn.ntmps paths.length false (A g) body (retM P fn paths.length own (res g) (post g)) ⟨argsT 0 (args g),objs g⟩):SpecG Γ P (mkSpecM f paths dec args objs pre res post):=by
 refine fun w0 X0 hΓ=>⟨hent,fun l H HF nm y he _ hrun=>?_,fun l H nm y hrun hask E w hrep hfree vals ha=>?_⟩
 ·simp only [mkSpecM] at hrun ⊢
  split at hrun
  case h_2=>cases hrun
  rename_i ks hks
  rw [namesOf_ext he paths [] ks hks]
  split at hrun
  case h_2=>cases hrun
  rename_i hc
  simp only
  rw [objsAt_ext he (Bool.and_eq_true _ _▸hc).2,hc]
  exact hrun
 ·simp only [mkSpecM] at hrun
  split at hrun
  case h_2=>cases hrun
  rename_i ks hks
  split at hrun
  case h_2=>cases hrun
  rename_i hc
  rw [Bool.and_eq_true] at hc
  obtain ⟨hn,hal⟩:=hc
  split at hrun
  case h_2=>cases hrun
  rename_i g hdec
  cases hrun
  obtain ⟨⟨hle,⟨hpre⟩⟩,hholes⟩:=withHoles_get hask
  obtain ⟨hkn,hkl⟩:=namesOf_known hrep ha paths [] ks (fun k hk=>by cases hk) (holesP_of hholes) hks
  have hkl':ks.length=paths.length:=by simpa using hkl
  unfold argLe at hle
  split at hle
  case h_2=>exact hle.elim
  rename_i hll
  have hll':=Nat.eq_of_beq_eq_true hll
  rw [List.length_map] at hll'
  obtain ⟨hs,hxs⟩:=hrep.sml hn hal
  have hv:=hrep.verOK hal
  have hnm:∀ k,(smlF X0 H E ks).nm k≠none->k<paths.length:=fun k hk=>by
   cases he:smlE E ks k with
   | none=>exact absurd he hk
   | some e=>
    obtain ⟨k',hk',_⟩:=smlE_inv he
    have:=(List.getElem?_eq_some_iff.1 hk').1
    omega
  have hT:=argsT_look fn.ntmps vals (l.map (sml (objsAt H ks) ks)) w (Xo (smlF X0 H E ks) (smlE E ks) ((objsAt H ks).map (smlO (objsAt H ks) ks))) (smlE E ks) (by rw [ha.1,List.length_map]) (by rw [List.length_map,hll']; exact hlen g) (fun i hi=>by
   rw [List.length_map] at hi
   have e1:(l.map (sml (objsAt H ks) ks)).getD i .any=sml (objsAt H ks) ks (l.getD i .any):=by
    rw [List.getD_eq_getElem?_getD,List.getElem?_map,List.getD_eq_getElem?_getD,List.getElem?_eq_getElem hi]; rfl
   rw [e1]
   exact R_sml hxs hv (ha.2 i hi))
  have hst:StR w (smlF X0 H E ks) fn.ntmps ⟨argsT 0 (l.map (sml (objsAt H ks) ks)),(objsAt H ks).map (smlO (objsAt H ks) ks)⟩ ⟨vals++Array.replicate (fn.ntmps-vals.size) undef,[]⟩ w:=⟨smlE E ks,hs,hT.1,DefOK.nil _ _ _,hT.2⟩
  have hst2:=hst.le (m:=((objsAt H ks).map (smlO (objsAt H ks) ks)).length) (fun k hk=>by rw [List.length_map,objsAt,List.length_map,hkl']; exact hnm k hk) hle.get.1 hle.get.2
  refine calls_of_vc (w0:=w) (X0:=smlF X0 H E ks) (G:=vcResM P fn paths.length own (res g) (post g)) hf hb (vc_soundG (Γ:=Γ) (w0:=w) (X0:=smlF X0 H E ks) (fun w0 X0 h s hs=>hspecs s hs w0 X0 h) heqs hm body hN (hG hΓ hrep) (.inl rfl) (fun _=>rfl) hnm _ _ _ _ (h g hpre) (fun e s a w' hk hs=>?_) _ w hst2) (fun s a w' hk _ hs=>?_)
  ·cases e with
   | normal=>exact ⟨s,hk,hs⟩
   | ret=>exact ⟨s,hk,hs⟩
   | exit id=>exact hk.elim
  ·obtain ⟨v,Es,h2,h3,h4⟩:=resM_sound hk hnm hs
   exact ⟨v,h2,v,rfl,Goes.of_sml hrep hn hkn hal h3 h4⟩
theorem spec_soundM {P:Program}{specs:List FSpec}(hspecs:∀ s∈specs,SpecOK P s) {eqs:List (TypeId×List CK)}(heqs:∀ t n,(t,n)∈eqs->EqOK P t n) (hm:P.follows .mixedOrders=true)
  {f:FuncId}{fn:Func}{body:Code}(hf:P.funcs[f]?=some fn) (hb:fn.body=some body) (hc:codeB (effS specs) body=true) (hent:∀ args w,(callFunc f args).run P w = .ok (.enter f args) w)
  {paths:List NP}{γ:Type}{dec:List SV->List SO->Option γ}{args:γ->List SV}{objs:γ->List SO}{pre:γ->Prop}{res:γ->SV}{post:γ->List SO}(A:γ->Ann) (own:Bool) (hlen:∀ g,(args g).length<=fn.ntmps)
  (h:∀ g,pre g->vc P specs eqs fn.ntmps paths.length false (A g) body (retM P fn paths.length own (res g) (post g)) ⟨argsT 0 (args g),objs g⟩):SpecOK P (mkSpecM f paths dec args objs pre res post):=
 specOK_of_at fun w0 X0=>spec_soundMG (Γ:=topG) (fun _ _=>trivial) (fun s hs=>(hspecs s hs).g) heqs hm hf hb hc (.inl fun _ _=>trivial) hent A own hlen h w0 X0 trivial
theorem Rep.pick {w0:World}{X:Nat->Prop}{H E w} (h:Rep w0 (Fr.of X) H E w) {ks:List Nat}(hn:nodupB ks=true) (ha:(objsAt H ks).all aliveB=true) :
  Rep w0 (Fr.of X) ((objsAt H ks).map (smlO (objsAt H ks) ks)) (smlE E ks) w/\∀ b,Xo (Fr.of X) (smlE E ks) ((objsAt H ks).map (smlO (objsAt H ks) ks)) b->Xo (Fr.of X) E H b:=by
 have hv:=h.verOK ha
 have hx:∀ b,Xo (Fr.of X) (smlE E ks) ((objsAt H ks).map (smlO (objsAt H ks) ks)) b->Xo (Fr.of X) E H b:=by
  rintro b (hb | ⟨i,e,he,hh⟩)
  ·exact .inl hb
  ·obtain ⟨k,e0,hk,he0,hh0⟩:=smlE_holds he hh
   exact .inr ⟨k,e0,he0,hh0⟩
 refine ⟨⟨h.below,h.x0,fun i e he=>(nomatch he),fun i e he=>?_,fun i e he=>?_,fun i e b he hb=>?_,fun i i' e e' b he he' hb hb'=>?_⟩,hx⟩
 ·obtain ⟨k,hk,_⟩:=smlE_inv he
  rw [List.length_map,objsAt,List.length_map]
  exact (List.getElem?_eq_some_iff.1 hk).1
 ·obtain ⟨k,hk,h2⟩:=smlE_inv he
  have hget:(List.map (smlO (objsAt H ks) ks) (objsAt H ks)).getD i .dead=smlO (objsAt H ks) ks (H.getD k .dead):=by
   rw [List.getD_eq_getElem?_getD,List.getElem?_map,objsAt,List.getElem?_map,hk]; rfl
  rw [hget]
  rcases h2 with ⟨b,hb,rfl⟩ | ⟨ver,v,us,hb,rfl⟩
  ·exact (EIok_sml hx hv).1 (h.ok k _ hb)
  ·exact (EIok_sml hx hv).2 (h.ok k _ hb)
 ·obtain ⟨k,e0,hk,he0,hh0⟩:=smlE_holds he hb
  exact h.low k e0 b he0 hh0
 ·obtain ⟨k,e0,hk,he0,hh0⟩:=smlE_holds he hb
  obtain ⟨k',e1,hk',he1,hh1⟩:=smlE_holds he' hb'
  have:=h.inj k k' e0 e1 b he0 he1 hh0 hh1
  subst this
  have h1:=posOf_of hn hk
  rw [posOf_of hn hk'] at h1
  exact (Option.some.inj h1).symm
theorem Goes.of_new {w0 X0 H E w nm} (h:Rep w0 X0 H E w) {row:SO}(hf:Free H E nm (.new (bigO [.dead] [nm] 0 row))) {Es:Env}{w':World}(hs:Rep w (Fr.of (Xo X0 E H)) [row] Es w') {res:SV}{v:Value}
  (hr:R w' (Xo (Fr.of (Xo X0 E H)) Es [row]) Es res v):Goes w0 X0 H E w nm (.new (bigO [.dead] [nm] 0 row)) (big [.dead] [nm] res) v w':=by
 have hb:=hs.below.all
 obtain ⟨f1,f2,f3⟩:=hf _ rfl
 cases he:Es 0 with
 | none=>
  refine ⟨E,Env.le_refl _,Rep.keeps hb,Within.refl _ _,h.world hb,R_big (fun b hb=> .inl hb) (fun i k b hk he'=>?_) (fun i k ver v us hk he'=>?_) hr,fun k hk=> .inl hk⟩
  ·cases i with
   | zero=>rw [he] at he'; cases he'
   | succ i=>cases hk
  ·cases i with
   | zero=>rw [he] at he'; cases he'
   | succ i=>cases hk
 | some e=>
  have hhold:∀ b,holds e (bigO [.dead] [nm] 0 row) b->holds e row b:=by
   intro b hb
   cases e with
   | blk b0=>rw [(holds_big _).1] at hb; exact hb
   | slc ver v us=>rw [(holds_big _).2 v us ver ver] at hb; exact hb
  have hok:=hs.ok 0 e he
  have hrow:[row].getD 0 SO.dead=row:=rfl
  rw [hrow] at hok
  have hx:∀ b,Xo X0 (E.put nm e) H b->Xo (Fr.of (Xo X0 E H)) Es [row] b:=by
   rintro b (hb | ⟨k,e',hk,hh⟩)
   ·exact .inl (.inl hb)
   ·by_cases hkn:k=nm
    ·subst hkn
     rw [Env.put_same] at hk
     cases hk
     rw [f3] at hh
     exact .inr ⟨0,e,he,hhold b hh⟩
    ·rw [Env.put_ne hkn] at hk
     exact .inl (.inr ⟨k,e',hk,hh⟩)
  have n1:∀ i k b,([nm]:List Nat)[i]?=some k->Es i=some (.blk b)->(E.put nm e) k=some (.blk b):=by
   intro i k b hk he'
   cases i with
   | zero=>cases hk; rw [he] at he'; cases he'; exact Env.put_same _ _ _
   | succ i=>cases hk
  have n2:∀ i k ver v us,([nm]:List Nat)[i]?=some k->Es i=some (.slc ver v us)->(E.put nm e) k=some (.slc (verO (([.dead]:List SO).getD i .dead)+ver) v us):=by
   intro i k ver v us hk he'
   cases i with
   | zero=>
    cases hk
    rw [he] at he'
    cases he'
    rw [Env.put_same]
    show some (EI.slc ver v us)=some (EI.slc (0+ver) v us)
    rw [Nat.zero_add]
   | succ i=>cases hk
  have hokn:EIok w' (Xo X0 (E.put nm e) H) (E.put nm e) e (bigO [.dead] [nm] 0 row):=by
   have weak:∀ {s:SV}{u:Value},R w' (Xo (Fr.of (Xo X0 E H)) Es [row]) E0 s u->R w' (Xo X0 (E.put nm e) H) E0 s u:=fun hr=>hr.mono (fun _ _ _=>rfl) (fun b _ hb=>hx b hb) (Env.le_refl _)
   cases e with
   | blk b0=>
    cases row with
    | dead=>trivial
    | cells n g T=>
     obtain ⟨vs,h1,h2,h3⟩:=hok
     exact ⟨vs,h1,h2,fun j hj=>⟨(h3 j hj).1,R_big hx n1 n2 (h3 j hj).2⟩⟩
    | scells n g=>
     obtain ⟨vs,T,fr,h1,h2,h3,h4⟩:=hok
     exact ⟨vs,T,fr,h1,fun hc=>h2 (hx _ hc),h3,fun j hj=>⟨(h4 j hj).1,weak (h4 j hj).2⟩⟩
    | row=>exact hok
    | srow=>exact hok
    | deep=>exact hok
    | mpi=>exact hok
    | mps=>exact hok
   | slc ver v us=>
    cases row with
    | dead=>trivial
    | cells=>exact hok
    | scells=>exact hok
    | mpi kk tot has val=>
     obtain ⟨hz,b1,es,clock,h1,h2,h3⟩:=hok
     exact ⟨hz,b1,es,clock,h1,h2,h3.over hx⟩
    | mps kd has c m p T' ho=>
     obtain ⟨hz,b1,es,clock,h1,h2,d⟩:=hok
     exact ⟨hz,b1,es,clock,h1,h2,d.over hx _ fun s u hu=>R_big hx n1 n2 hu⟩
    | row ver' len n g T=>
     obtain ⟨rfl,xs,h2,h3⟩:=hok
     exact ⟨(Nat.zero_add _).symm,xs,h2,fun i j hi hj=>⟨(h3 i j hi hj).1,weak (h3 i j hi hj).2⟩⟩
    | srow ver' len n g=>
     obtain ⟨rfl,h2⟩:=hok
     exact ⟨(Nat.zero_add _).symm,weak h2⟩
    | deep ver' len n c m p g T T' ho=>
     obtain ⟨rfl,xs,d⟩:=hok
     refine ⟨(Nat.zero_add _).symm,xs,d.map hx (fun i hi=>by rwa [hoAt_map_none] at hi) (fun i sv' hi=>?_)⟩
     rw [hoAt_map] at hi
     cases hh:hoAt ho i with
     | none=>rw [hh] at hi; cases hi
     | some sv=>
      rw [hh] at hi
      cases hi
      exact ⟨sv,rfl,fun u hu=>R_big hx n1 n2 hu⟩
  obtain ⟨g1,g2⟩:=h.new (e:=e) f1 f2 hb (fun b hb'=>by
   rw [f3] at hb'
   rcases hs.low 0 e b he (hhold b hb') with h4 | h4
   ·exact h4
   ·exact h4.elim) (by rw [f3]; exact hokn)
  refine ⟨E.put nm e,Env.le_put f1,Rep.keeps hb,g2,g1,R_big hx n1 n2 hr,fun k hk=>?_⟩
  by_cases hkn:k=nm
  ·exact .inr ⟨hkn,_,rfl⟩
  ·rw [Env.put_ne hkn] at hk; exact .inl hk
def deads (n:Nat):List SO:=(List.range n).map fun _=> .dead
def namesFrom (d n:Nat):List Nat:=(List.range n).map fun i=>d+i
theorem namesFrom_get {d n i k:Nat}(h:(namesFrom d n)[i]?=some k):i<n/\k=d+i:=by
 unfold namesFrom at h
 rw [List.getElem?_map] at h
 cases hr:(List.range n)[i]? with
 | none=>rw [hr] at h; cases h
 | some j=>
  rw [hr] at h
  cases h
  have hi:=(List.getElem?_eq_some_iff.1 hr).1
  rw [List.length_range] at hi
  rw [List.getElem?_range hi] at hr
  cases hr
  exact ⟨hi,rfl⟩
theorem deads_get (n i:Nat):verO ((deads n).getD i .dead)=0:=by
 have:(deads n).getD i .dead = .dead:=by
  unfold deads
  rw [List.getD_eq_getElem?_getD,List.getElem?_map]
  cases (List.range n)[i]?<;>rfl
 rw [this]; rfl
theorem GoesL.of {w0 X0 H E w} (h:Rep w0 X0 H E w) {rows:List SO}{Es:Env}{w':World}(hs:Rep w (Fr.of (Xo X0 E H)) rows Es w') {res:SV}{v:Value}(hr:R w' (Xo (Fr.of (Xo X0 E H)) Es rows) Es res v) :
  GoesL w0 X0 H E w (rows.map (bigO (deads rows.length) (namesFrom H.length rows.length) 0)) (big (deads rows.length) (namesFrom H.length rows.length) res) v w':=by
 have hb:=hs.below.all
 generalize hE:(fun k=>if k<H.length then E k else Es (k-H.length):Env)=E'
 generalize hN:rows.map (bigO (deads rows.length) (namesFrom H.length rows.length) 0)=new
 have old:∀ {k},k<H.length->E' k=E k:=fun hk=>by rw [<-hE]; exact if_pos hk
 have nw:∀ i,E' (H.length+i)=Es i:=fun i=>by
  rw [<-hE]
  show (if H.length+i<H.length then E (H.length+i) else Es (H.length+i-H.length))=Es i
  rw [if_neg (by omega),Nat.add_sub_cancel_left]
 have split:∀ k,k<H.length\/∃ i,k=H.length+i:=fun k=>by
  by_cases hk:k<H.length
  ·exact .inl hk
  ·exact .inr ⟨k-H.length,by omega⟩
 have hlen:new.length=rows.length:=by rw [<-hN,List.length_map]
 have getOld:∀ {k},k<H.length->(H++new).getD k .dead=H.getD k .dead:=fun hk=>getD_append_left hk
 have getNew:∀ {i},i<rows.length->(H++new).getD (H.length+i) .dead=bigO (deads rows.length) (namesFrom H.length rows.length) 0 (rows.getD i .dead):=fun {i} hi=>by
  rw [List.getD_eq_getElem?_getD,List.getElem?_append_right (by omega),Nat.add_sub_cancel_left,<-hN,List.getElem?_map,List.getD_eq_getElem?_getD,List.getElem?_eq_getElem hi]
  rfl
 have hhold:∀ {e:EI}{row:SO}{b:Nat},holds e (bigO (deads rows.length) (namesFrom H.length rows.length) 0 row) b->holds e row b:=by
  intro e row b hb
  cases e with
  | blk b0=>rw [(holds_big _).1] at hb; exact hb
  | slc ver v us=>rw [(holds_big _).2 v us ver ver] at hb; exact hb
 have hx:∀ b,Xo X0 E' (H++new) b->Xo (Fr.of (Xo X0 E H)) Es rows b:=by
  rintro b (hb | ⟨k,e,hk,hh⟩)
  ·exact .inl (.inl hb)
  ·rcases split k with hkl | ⟨i,rfl⟩
   ·rw [old hkl] at hk
    rw [getOld hkl] at hh
    exact .inl (.inr ⟨k,e,hk,hh⟩)
   ·rw [nw] at hk
    rw [getNew (hs.dom _ _ hk)] at hh
    exact .inr ⟨i,e,hk,hhold hh⟩
 have hw:Within (Xo X0 E H) (Xo X0 E' (H++new)) w:=by
  intro b hlt hbx
  rcases hx b hbx with h1 | ⟨i,e,he,hh⟩
  ·exact h1
  ·rcases hs.low i e b he hh with h4 | h4
   ·omega
   ·exact h4.elim
 have le:E.le E':=⟨fun k b hk=>by rw [old (h.dom _ _ hk)]; exact hk,fun k ver v us hk=>⟨ver,v,us,by rw [old (h.dom _ _ hk)]; exact hk,Nat.le_refl _,fun _=>rfl⟩⟩
 have n1:∀ i k b,(namesFrom H.length rows.length)[i]?=some k->Es i=some (.blk b)->E' k=some (.blk b):=fun i k b hk he=>by
  obtain ⟨_,rfl⟩:=namesFrom_get hk
  rw [nw]; exact he
 have n2:∀ i k ver v us,(namesFrom H.length rows.length)[i]?=some k->Es i=some (.slc ver v us)->E' k=some (.slc (verO ((deads rows.length).getD i .dead)+ver) v us):=fun i k ver v us hk he=>by
  obtain ⟨_,rfl⟩:=namesFrom_get hk
  rw [nw,he,deads_get,Nat.zero_add]
 have okn:∀ {e:EI}{row:SO},EIok w' (Xo (Fr.of (Xo X0 E H)) Es rows) Es e row->EIok w' (Xo X0 E' (H++new)) E' e (bigO (deads rows.length) (namesFrom H.length rows.length) 0 row):=by
  intro e row hok
  have weak:∀ {s:SV}{u:Value},R w' (Xo (Fr.of (Xo X0 E H)) Es rows) E0 s u->R w' (Xo X0 E' (H++new)) E0 s u:=fun hr=>hr.mono (fun _ _ _=>rfl) (fun b _ hb=>hx b hb) (Env.le_refl _)
  cases e with
  | blk b0=>
   cases row with
   | dead=>trivial
   | cells n g T=>
    obtain ⟨vs,h1,h2,h3⟩:=hok
    exact ⟨vs,h1,h2,fun j hj=>⟨(h3 j hj).1,R_big hx n1 n2 (h3 j hj).2⟩⟩
   | scells n g=>
    obtain ⟨vs,T,fr,h1,h2,h3,h4⟩:=hok
    exact ⟨vs,T,fr,h1,fun hc=>h2 (hx _ hc),h3,fun j hj=>⟨(h4 j hj).1,weak (h4 j hj).2⟩⟩
   | row=>exact hok
   | srow=>exact hok
   | deep=>exact hok
   | mpi=>exact hok
   | mps=>exact hok
  | slc ver v us=>
   cases row with
   | dead=>trivial
   | cells=>exact hok
   | scells=>exact hok
   | mpi kk tot has val=>
    obtain ⟨hz,b1,es,clock,h1,h2,h3⟩:=hok
    exact ⟨hz,b1,es,clock,h1,h2,h3.over hx⟩
   | mps kd has c m p T' ho=>
    obtain ⟨hz,b1,es,clock,h1,h2,d⟩:=hok
    exact ⟨hz,b1,es,clock,h1,h2,d.over hx _ fun s u hu=>R_big hx n1 n2 hu⟩
   | row ver' len n g T=>
    obtain ⟨rfl,xs,h2,h3⟩:=hok
    exact ⟨(Nat.zero_add _).symm,xs,h2,fun i j hi hj=>⟨(h3 i j hi hj).1,weak (h3 i j hi hj).2⟩⟩
   | srow ver' len n g=>
    obtain ⟨rfl,h2⟩:=hok
    exact ⟨(Nat.zero_add _).symm,weak h2⟩
   | deep ver' len n c m p g T T' ho=>
    obtain ⟨rfl,xs,d⟩:=hok
    refine ⟨(Nat.zero_add _).symm,xs,d.map hx (fun i hi=>by rwa [hoAt_map_none] at hi) (fun i sv' hi=>?_)⟩
    rw [hoAt_map] at hi
    cases hh:hoAt ho i with
    | none=>rw [hh] at hi; cases hi
    | some sv=>
     rw [hh] at hi
     cases hi
     exact ⟨sv,rfl,fun u hu=>R_big hx n1 n2 hu⟩
 have newb:∀ {i e b},Es i=some e->holds e ((H++new).getD (H.length+i) .dead) b->w.heap.size<=b:=fun {i e b} he hh=>by
  rw [getNew (hs.dom _ _ he)] at hh
  rcases hs.low i e b he (hhold hh) with h4 | h4
  ·exact h4
  ·exact h4.elim
 have oldb:∀ {k e b},E k=some e->holds e (H.getD k .dead) b->b<w.heap.size:=fun he hh=>holds_lt (h.ok _ _ he) hh
 refine ⟨E',le,Rep.keeps hb,hw,⟨h.below.below hb,h.x0,fun k e hk=>(h.nm k e hk).le le,fun k e hk=>?_,fun k e hk=>?_,fun k e b hk hh=>?_,fun k k' e e' b hk hk' hh hh'=>?_⟩,R_big hx n1 n2 hr⟩
 ·rw [List.length_append,hlen]
  rcases split k with hkl | ⟨i,rfl⟩
  ·omega
  ·rw [nw] at hk
   have:=hs.dom _ _ hk
   omega
 ·rcases split k with hkl | ⟨i,rfl⟩
  ·rw [old hkl] at hk
   rw [getOld hkl]
   exact (h.ok k e hk).mono (Rep.keeps hb) hw le fun b hh'=>hb.block b (oldb hk hh')
  ·rw [nw] at hk
   rw [getNew (hs.dom _ _ hk)]
   exact okn (hs.ok i e hk)
 ·rcases split k with hkl | ⟨i,rfl⟩
  ·rw [old hkl] at hk
   rw [getOld hkl] at hh
   exact h.low k e b hk hh
  ·rw [nw] at hk
   have:=newb hk hh
   have:=h.below.size
   exact .inl (by omega)
 ·rcases split k with hkl | ⟨i,rfl⟩
  ·rw [old hkl] at hk
   rw [getOld hkl] at hh
   rcases split k' with hkl' | ⟨i',rfl⟩
   ·rw [old hkl'] at hk'
    rw [getOld hkl'] at hh'
    exact h.inj k k' e e' b hk hk' hh hh'
   ·rw [nw] at hk'
    have:=newb hk' hh'
    have:=oldb hk hh
    omega
  ·rw [nw] at hk
   rcases split k' with hkl' | ⟨i',rfl⟩
   ·rw [old hkl'] at hk'
    rw [getOld hkl'] at hh'
    have:=newb hk hh
    have:=oldb hk' hh'
    omega
   ·rw [nw] at hk'
    rw [getNew (hs.dom _ _ hk)] at hh
    rw [getNew (hs.dom _ _ hk')] at hh'
    rw [hs.inj i i' e e' b hk hk' (hhold hh) (hhold hh')]
def mkSpecN (f:FuncId) {γ:Type}(dec:List SV->Option γ) (args:γ->List SV) (pre:γ->Prop) (res:γ->SV) (row:γ->SO):FSpec:=
 ⟨f,false,fun l _ nm=>match l.all (isPure 6) with
  | true=>match dec l with
   | some g=>some ⟨mkSpec.leArgs l (args g)/\Ask (pre g),big [.dead] [nm] (res g),.new (bigO [.dead] [nm] 0 (row g))⟩
   | none=>none
  | false=>none⟩
def vcResN (P:Program) (fn:Func) (k:Nat) (res:SV) (row:SO) (s:St):Prop:=
 match resS P fn.ntmps s fn.results.toList with
 | some (p,l)=>p/\match aliveB (s.H.getD k .dead) with
  | true=>StLe ⟨[(0,sml (objsAt s.H [k]) [k] (oneOf l))],(objsAt s.H [k]).map (smlO (objsAt s.H [k]) [k])⟩ ⟨[(0,res)],[row]⟩
  | false=>False
 | none=>False
def retN (P:Program) (fn:Func) (k:Nat) (res:SV) (row:SO):SK
 | .exit _,_=>False
 | _,s=>vcResN P fn k res row s
theorem spec_soundN {P:Program}{specs:List FSpec}(hspecs:∀ s∈specs,SpecOK P s) {eqs:List (TypeId×List CK)}(heqs:∀ t n,(t,n)∈eqs->EqOK P t n) (hm:P.follows .mixedOrders=true)
  {f:FuncId}{fn:Func}{body:Code}(hf:P.funcs[f]?=some fn) (hb:fn.body=some body) (_:codeB (effS specs) body=true) (hent:∀ args w,(callFunc f args).run P w = .ok (.enter f args) w)
  {γ:Type}{dec:List SV->Option γ}{args:γ->List SV}{pre:γ->Prop}{res:γ->SV}{row:γ->SO}(A:γ->Ann) (k:γ->Nat) (hlen:∀ g,(args g).length<=fn.ntmps)
  (h:∀ g,pre g->vc P specs eqs fn.ntmps 0 false (A g) body (retN P fn (k g) (res g) (row g)) ⟨argsT 0 (args g),[]⟩):SpecOK P (mkSpecN f dec args pre res row):=by
 refine ⟨hent,fun args H HF nm y _ _ h=>h,fun l H nm y hrun hp w0 X0 E w hrep hfree vals ha=>?_⟩
 simp only [mkSpecN] at hrun
 split at hrun
 case h_2=>cases hrun
 rename_i hpu
 split at hrun
 case h_2=>cases hrun
 rename_i g hdec
 cases hrun
 obtain ⟨hle,⟨hpre⟩⟩:=hp
 obtain ⟨hll,hle⟩:=leArgs_get hle
 have hr:=args_pure ha hpu
 have hsz:=ha.1
 have hxo:Xo (Fr.of (Xo X0 E H)) E0 []=Xo X0 E H:=by
  funext b
  apply propext
  exact ⟨fun hb=>hb.elim id (fun ⟨k,e,he,_⟩=>(nomatch he)),fun hb=>Or.inl hb⟩
 have hT:=argsT_look fn.ntmps vals (args g) w (Xo X0 E H) E0 (by omega) (hlen g) (fun i hi=>pureR (fun _ hb=>hb) (hle i hi) (hr i (by omega)))
 refine calls_of_vc (w0:=w) (X0:=Fr.of (Xo X0 E H)) (G:=vcResN P fn (k g) (res g) (row g)) hf hb (vc_sound (w0:=w) (X0:=Fr.of (Xo X0 E H)) hspecs heqs hm body (.inl rfl) (fun _=>rfl) (fun k hk=>absurd rfl hk) _ _ _ _ (h g hpre) (fun e s a w' hk hs=>?walk) _ w ?start) (fun s a w' hk _ hs=>?fin)
 case walk=>
  cases e with
  | normal=>exact ⟨s,hk,hs⟩
  | ret=>exact ⟨s,hk,hs⟩
  | exit id=>exact hk.elim
 case fin=>
   obtain ⟨E1,hrep1,htr⟩:=hs
   unfold vcResN at hk
   split at hk
   case h_2=>exact hk.elim
   rename_i p l hres
   obtain ⟨hp,hk⟩:=hk
   obtain ⟨v,hv1,hv2⟩:=results_sound rfl hrep1 htr hres hp
   split at hk
   case h_2=>exact hk.elim
   rename_i hal
   have hal':(objsAt s.H [k g]).all aliveB=true:=by simp only [objsAt,List.map_cons,List.map_nil,List.all_cons,hal,List.all_nil,Bool.and_self]
   obtain ⟨p1,p2⟩:=hrep1.pick (ks:=[k g]) rfl hal'
   obtain ⟨p3,p4⟩:=p1.le (m:=0) hk.2 (fun k hk=>absurd rfl hk) (by simp [NmLe,Nat.ble_eq_true_of_le (Nat.zero_le _)])
   have hsv:=SVle_sound p4 (fun k ver v us he ver' hr=>EIok_ver (p1.ok k _ he) hr) (tmpLe_get hk.1 0) (R_sml p2 (hrep1.verOK hal') hv2)
   exact ⟨v,hv1,v,rfl,Goes.of_new hrep hfree p3 hsv⟩
 case start=>
  refine ⟨E0,⟨Bel.refl _ _,fun b hb=>⟨hrep.xlt b hb,id⟩,fun k e he=>(nomatch he),fun k e he=>(nomatch he),fun k e he=>(nomatch he),fun k e b he=>(nomatch he),fun k k' e e' b he=>(nomatch he)⟩,hT.1,DefOK.nil _ _ _,fun t ht=>?_⟩
  rw [hxo]
  exact hT.2 t ht
def purAll (H:List SO):List SV->Option (List SV)
 | []=>some []
 | s::r=>match pur H 6 s with
  | some s'=>match purAll H r with
   | some r'=>some (s'::r')
   | none=>none
  | none=>none
def giv (s:FSpec):FSpec:=⟨s.f,true,fun l H nm=>match frzAll H (l.flatMap (needs H 6)) with
 | some fl=>forceH (applyS H fl) fun H'=>match purAll H' l with
  | some l'=>match s.run l' H' nm with
   | some y=>match y.eff with
    | .keep=>some ⟨y.ask,y.val,.sets fl⟩
    | _=>none
   | none=>none
  | none=>none
 | none=>none⟩
theorem purAll_sound {w0 X0 H E w} (h:Rep w0 X0 H E w):∀ {l l':List SV},purAll H l=some l'->l'.length=l.length/\∀ i v,i<l.length->R w (Xo X0 E H) E (l.getD i .any) v->R w (Xo X0 E H) E (l'.getD i .any) v
 | [],l',hp=>by cases hp; exact ⟨rfl,fun i v hi=>absurd hi (Nat.not_lt_zero _)⟩
 | s::r,l',hp=>by
  simp only [purAll] at hp
  split at hp
  case h_2=>cases hp
  rename_i s' hs
  split at hp
  case h_2=>cases hp
  rename_i r' hr
  cases hp
  obtain ⟨h1,h2⟩:=purAll_sound h hr
  refine ⟨by simp [h1],fun i v hi hv=>?_⟩
  cases i with
  | zero=>exact up (pur_sound h 6 _ _ _ hs hv)
  | succ i=>exact h2 i v (by simpa using hi) hv
theorem giv_at {P:Program}{w0:World}{X0:Fr}{s:FSpec}(hs:SpecAt P w0 X0 s):SpecAt P w0 X0 (giv s):=by
 refine ⟨hs.1,fun l H HF nm y _ hns hrun=>?_,fun l H nm y hrun hask E w hrep hfree vals ha=>?_⟩
 ·exfalso
  simp only [giv] at hrun
  split at hrun
  case h_2=>cases hrun
  rw [forceH_eq] at hrun
  split at hrun
  case h_2=>cases hrun
  split at hrun
  case h_2=>cases hrun
  split at hrun
  case h_2=>cases hrun
  cases hrun
  exact hns _ rfl
 ·simp only [giv] at hrun
  split at hrun
  case h_2=>cases hrun
  rename_i fl hfl
  rw [forceH_eq] at hrun
  split at hrun
  case h_2=>cases hrun
  rename_i l' hl'
  split at hrun
  case h_2=>cases hrun
  rename_i y' hy'
  split at hrun
  case h_2=>cases hrun
  rename_i hkeep
  cases hrun
  obtain ⟨g1,g2⟩:=frzAll_sound _ _ _ hrep hfl
  obtain ⟨p1,p2⟩:=purAll_sound g1 hl'
  refine (hs.2.2 l' (applyS H fl) nm y' hy' hask E w g1 (fun so hso=>by rw [hkeep] at hso; cases hso) vals ⟨by rw [p1]; exact ha.1,fun i hi=>?_⟩).mono ?_
  ·rw [p1] at hi
   exact p2 i _ hi ((ha.2 i hi).mono (fun _ _ _=>rfl) g2 (Env.le_refl _))
  ·rintro e w' ⟨v,rfl,E',le,hk,hx,hr,hv,hE⟩
   rw [hkeep] at hx hr hv hE
   exact ⟨v,rfl,E',le,fun b hlt hb=>hk b hlt fun hc=>hb (g2 b hlt hc),g2.trans hx,hr,hv,fun k hk=>(hE k hk).elim .inl fun ⟨_,so,hso⟩=>by cases hso⟩
theorem giv_ok {P:Program}{s:FSpec}(hs:SpecOK P s):SpecOK P (giv s):=specOK_of_at fun w0 X0=>giv_at (hs.at w0 X0)
def scalB:Nat->SV->Bool
 | 0,_=>false
 | f+1,sv=>match sv with
  | .int ..=>true
  | .bool _=>true
  | .lit _=>true
  | .str _=>true
  | .tup n g=>(List.range n).all fun i=>scalB f (g i)
  | _=>false
theorem scal_sound {w w':World}{X X':Nat->Prop}{E E':Env}:∀ (f:Nat) (sv:SV) (v:Value),scalB f sv=true->R w X E sv v->R w' X' E' sv v
 | 0,_,_,h,_=>by cases h
 | f+1,sv,v,h,hr=>by
  cases hr with
  | int=>exact .int
  | bool=>exact .bool
  | lit=>exact .lit
  | str=>exact .str
  | tup hs hr=>exact .tup hs fun i hi=>scal_sound f _ _ (all_range h hi) (hr i hi)
  | _=>simp [scalB] at h
def peek (H:List SO) (sv:SV):Option SV:=match sv with
  | .own k off=>match H.getD k .dead with
   | .scells n g=>if off<=n then some (.ref (n-off) (fun j=>g (off+j))) else none
   | .cells n g _=>if off<=n/\(List.range n).all (fun i=>isPure 6 (g i))=true then some (.ref (n-off) (fun j=>g (off+j))) else none
   | _=>none
  | .osl k ver=>match H.getD k .dead with
   | .srow ver' len n g=>if ver=ver' then some (.sl len n g) else none
   | .row ver' len n g _=>if ver=ver' then some (.sl len n g) else none
   | .deep ver' len n c m p g _ _ ho=>match ho with
    | none=>if ver=ver' then some (.sl len n (deepG c m p g)) else none
    | some _=>none
   | _=>none
  | .ownAt ..=>none
  | .win k ver n lo len=>match H.getD k .dead with
   | .srow ver' _ n' g=>if ver=ver'/\n=n' then some (.sl len n (fun i j=>g (lo+i) j)) else none
   | .row ver' _ n' g _=>if ver=ver'/\n=n' then some (.sl len n (fun i j=>g (lo+i) j)) else none
   | .deep ver' _ n' c m p g _ _ ho=>match ho with
    | none=>if ver=ver'/\n=n' then some (.sl len n (fun i j=>deepG c m p g (lo+i) j)) else none
    | some _=>none
   | _=>none
  | s=>match isPure 6 s with
   | true=>some s
   | false=>none
theorem slc_sl {w0 X0 H E w} (h:Rep w0 X0 H E w) {k ver:Nat}{v:Value}{us:Nat->Option Nat}(he:E k=some (.slc ver v us)) {ver' len n:Nat}{G:Nat->Nat->SV}
  (hs:(∃ g T,H.getD k .dead = .row ver' len n g T/\G=g)\/(∃ g,H.getD k .dead = .srow ver' len n g/\G=g)\/∃ c m p g T T',H.getD k .dead = .deep ver' len n c m p g T T' none/\G=deepG c m p g) :
  ver=ver'/\R w (fun _=>False) E0 (.sl len n G) v:=by
 have hok:=h.ok k _ he
 have weak:∀ {s:SV}{v:Value},R w (Xo X0 E H) E0 s v->R w (fun _=>False) E0 s v:=fun h=>h.mono (fun _ _ _=>rfl) (fun b _ hb=>hb.elim) (Env.le_refl _)
 rcases hs with ⟨g,T,hk,rfl⟩ | ⟨g,hk,rfl⟩ | ⟨c,m,p,g,T,T',hk,rfl⟩<;>rw [hk] at hok
 ·obtain ⟨h1,xs,h2,h3⟩:=hok
  exact ⟨h1,h2.toSl (T:=T) (fun b _ hb=>hb) fun i j hi hj=>⟨(h3 i j hi hj).1,weak (h3 i j hi hj).2⟩⟩
 ·exact ⟨hok.1,weak hok.2⟩
 ·obtain ⟨h1,xs,d⟩:=hok
  refine ⟨h1,d.own.toSl (T:=T) (fun b _ hb=>hb) fun i j hi hj=>?_⟩
  cases j with
  | succ j=>exact ⟨(d.rest i (j+1) hi (Nat.succ_pos _) hj).1,weak (d.rest i (j+1) hi (Nat.succ_pos _) hj).2⟩
  | zero=>
   obtain ⟨g1,ys,g2,g3⟩:=d.inn i hi rfl
   rw [Nat.add_zero]
   refine ⟨?_,g2.toSl (T:=T') (fun b _ hb=>hb) fun i' j' hi' hj'=>⟨(g3 i' j' hi' hj').1,weak (g3 i' j' hi' hj').2⟩⟩
   obtain ⟨a,a2,a3,e⟩:=g2.slice
   rw [e]; rfl
theorem peek_sound {w0 X0 H E w} (h:Rep w0 X0 H E w) (sv sv':SV) (v:Value) (hp:peek H sv=some sv') (hr:R w (Xo X0 E H) E sv v):R w (fun _=>False) E0 sv' v:=by
  have weak:∀ {s:SV}{v:Value},R w (Xo X0 E H) E0 s v->R w (fun _=>False) E0 s v:=fun h=>h.mono (fun _ _ _=>rfl) (fun b _ hb=>hb.elim) (Env.le_refl _)
  have pu:∀ {s:SV}{v:Value},R w (Xo X0 E H) E s v->(match isPure 6 s with
   | true=>some s
   | false=>none)=some sv'->R w (fun _=>False) E0 sv' v:=fun hr hp=>by
   split at hp
   ·rename_i hb; cases hp; exact weak (isPure_sound 6 _ _ hb hr)
   ·cases hp
  have old:∀ {k ver ver' v' us},E k=some (.slc ver' v' us)->ver<ver'->∀ {G:Nat->Nat->SV}{len n:Nat},((∃ g T,H.getD k .dead = .row ver len n g T/\G=g)\/(∃ g,H.getD k .dead = .srow ver len n g/\G=g)\/∃ c m p g T T',H.getD k .dead = .deep ver len n c m p g T T' none/\G=deepG c m p g)->False:=fun he hl G len n hs=>by
   have:=(slc_sl h he hs).1
   omega
  have win:∀ {k ver n lo len a a0 len0 cap0 us len1} {G:Nat->Nat->SV},E k=some (.slc ver (.slice a0 len0 cap0) us)->lo+len<=len0->(len≠0->a=a0.map (·.add (lo*n)))->
    ((∃ g T,H.getD k .dead = .row ver len1 n g T/\G=g)\/(∃ g,H.getD k .dead = .srow ver len1 n g/\G=g)\/∃ c m p g T T',H.getD k .dead = .deep ver len1 n c m p g T T' none/\G=deepG c m p g)->
    R w (fun _=>False) E0 (.sl len n (fun i j=>G (lo+i) j)) (.slice a len (cap0-lo)):=by
   intro k ver n lo len a a0 len0 cap0 us len1 G he hl ha hs
   have hr2:=(slc_sl h he hs).2
   by_cases hz:len=0
   ·subst hz; exact .sl0
   ·cases hr2 with
    | sl0=>omega
    | sl hb hX hc hlc ho hr=>
     rename_i b o c T fr
     rw [ha hz]
     have hle:=Nat.mul_le_mul_right n hl
     rw [Nat.add_mul] at hle
     have hadd:(some (⟨b,o,none⟩:Addr)).map (·.add (lo*n))=some ⟨b,o+lo*n,none⟩:=by rw [Option.map_some]; exact congrArg some (Addr.add_lit b o _)
     rw [hadd]
     have e1:∀ i j,o+lo*n+i*n+j=o+(lo+i)*n+j:=fun i j=>by rw [Nat.add_mul]; omega
     refine .sl hb hX (by omega) (by omega) (fun i j hi hj=>?_) fun i j hi hj=>?_
     ·rw [e1]; exact ho _ _ (by omega) hj
     ·rw [e1]; exact hr _ _ (by omega) hj
  cases hr with
  | any=>exact pu .any hp
  | int=>exact pu .int hp
  | bool=>exact pu .bool hp
  | lit=>exact pu .lit hp
  | str=>exact pu .str hp
  | nilfn=>exact pu .nilfn hp
  | cap0=>exact pu .cap0 hp
  | fn hs hr=>exact pu (.fn hs hr) hp
  | agg hs ho hr=>exact pu (.agg hs ho hr) hp
  | tup hs hr=>exact pu (.tup hs hr) hp
  | sl0=>exact pu .sl0 hp
  | sl hb hX hc hl ho hr=>exact pu (.sl hb hX hc hl ho hr) hp
  | ref hb hX hc ho hr=>exact pu (.ref hb hX hc ho hr) hp
  | own he=>
   rename_i k off b
   simp only [peek] at hp
   have hok:=h.ok k _ he
   generalize H.getD k .dead=so at hp hok
   cases so<;>simp only [reduceCtorEq] at hp
   ·rename_i n g T
    obtain ⟨⟨ha,hall⟩,rfl⟩:=ite_some hp
    obtain ⟨vs,h1,h2,h3⟩:=hok
    exact .ref h1 (fun hb=>hb) (by omega) (fun j hj=>(h3 (off+j) (by omega)).1) fun j hj=>weak (isPure_sound 6 _ _ (all_range hall (by omega)) (h3 (off+j) (by omega)).2)
   ·rename_i n g
    obtain ⟨ha,rfl⟩:=ite_some hp
    obtain ⟨vs,T,fr,h1,h2,h3,h4⟩:=hok
    exact .ref h1 (fun hb=>hb) (by omega) (fun j hj=>(h4 (off+j) (by omega)).1) fun j hj=>weak (h4 (off+j) (by omega)).2
  | osl he hv=>
   rename_i k ver us
   simp only [peek] at hp
   generalize hk:H.getD k .dead=so at hp
   cases so<;>simp only [reduceCtorEq] at hp
   ·obtain ⟨rfl,rfl⟩:=ite_some hp
    exact (slc_sl h he (.inl ⟨_,_,hk,rfl⟩)).2
   ·obtain ⟨rfl,rfl⟩:=ite_some hp
    exact (slc_sl h he (.inr (.inl ⟨_,hk,rfl⟩))).2
   ·split at hp
    case h_2=>cases hp
    obtain ⟨rfl,rfl⟩:=ite_some hp
    exact (slc_sl h he (.inr (.inr ⟨_,_,_,_,_,_,hk,rfl⟩))).2
  | oslOld he hlt hv=>
   rename_i k ver ver' v' us
   simp only [peek] at hp
   generalize hk:H.getD k .dead=so at hp
   cases so<;>simp only [reduceCtorEq] at hp
   ·obtain ⟨rfl,rfl⟩:=ite_some hp
    exact (old he hlt (.inl ⟨_,_,hk,rfl⟩)).elim
   ·obtain ⟨rfl,rfl⟩:=ite_some hp
    exact (old he hlt (.inr (.inl ⟨_,hk,rfl⟩))).elim
   ·split at hp
    case h_2=>cases hp
    obtain ⟨rfl,rfl⟩:=ite_some hp
    exact (old he hlt (.inr (.inr ⟨_,_,_,_,_,_,hk,rfl⟩))).elim
  | ownAt=>simp [peek] at hp
  | con=>exact pu .con hp
  | slP=>simp [peek,isPure] at hp
  | refP=>simp [peek,isPure] at hp
  | ifc ho hr=>exact pu (.ifc ho hr) hp
  | omap=>simp [peek,isPure] at hp
  | omapOld=>simp [peek,isPure] at hp
  | ownAtOld=>simp [peek] at hp
  | win he hl ha h0=>
   rename_i k ver n lo len a a0 len0 cap0 us
   simp only [peek] at hp
   generalize hk:H.getD k .dead=so at hp
   cases so<;>simp only [reduceCtorEq] at hp
   ·obtain ⟨⟨rfl,rfl⟩,rfl⟩:=ite_some hp
    exact win he hl ha (.inl ⟨_,_,hk,rfl⟩)
   ·obtain ⟨⟨rfl,rfl⟩,rfl⟩:=ite_some hp
    exact win he hl ha (.inr (.inl ⟨_,hk,rfl⟩))
   ·split at hp
    case h_2=>cases hp
    obtain ⟨⟨rfl,rfl⟩,rfl⟩:=ite_some hp
    exact win he hl ha (.inr (.inr ⟨_,_,_,_,_,_,hk,rfl⟩))
  | nilsl=>exact pu .nilsl hp
  | slN hr=>exact pu (.slN hr) hp
  | winOld he hlt hv=>
   rename_i k ver ver' v' n lo len us
   simp only [peek] at hp
   generalize hk:H.getD k .dead=so at hp
   cases so<;>simp only [reduceCtorEq] at hp
   ·obtain ⟨⟨rfl,rfl⟩,rfl⟩:=ite_some hp
    exact (old he hlt (.inl ⟨_,_,hk,rfl⟩)).elim
   ·obtain ⟨⟨rfl,rfl⟩,rfl⟩:=ite_some hp
    exact (old he hlt (.inr (.inl ⟨_,hk,rfl⟩))).elim
   ·split at hp
    case h_2=>cases hp
    obtain ⟨⟨rfl,rfl⟩,rfl⟩:=ite_some hp
    exact (old he hlt (.inr (.inr ⟨_,_,_,_,_,_,hk,rfl⟩))).elim
theorem peek_ext {H HF:List SO}(he:Ext H HF) {sv sv':SV}(hp:peek H sv=some sv'):peek HF sv=some sv':=by
 cases sv<;>simp only [peek,reduceCtorEq] at hp ⊢
 case own k off=>
  generalize hk:H.getD k .dead=so at hp
  cases so<;>simp only [reduceCtorEq] at hp<;>rw [he k (by rw [hk]; simp),hk]<;>exact hp
 case osl k ver=>
  generalize hk:H.getD k .dead=so at hp
  cases so<;>simp only [reduceCtorEq] at hp<;>rw [he k (by rw [hk]; simp),hk]<;>exact hp
 case win k ver n lo len=>
  generalize hk:H.getD k .dead=so at hp
  cases so<;>simp only [reduceCtorEq] at hp<;>rw [he k (by rw [hk]; simp),hk]<;>exact hp
 all_goals exact hp
def peekAll (H:List SO):List SV->Option (List SV)
 | []=>some []
 | s::r=>match peek H s with
  | some s'=>match peekAll H r with
   | some r'=>some (s'::r')
   | none=>none
  | none=>none
def lend (s:FSpec):FSpec:=⟨s.f,false,fun l H nm=>match peekAll H l with
 | some l'=>match s.run l' [] 0 with
  | some y=>match y.eff with
   | .keep=>match scalB 3 y.val with
    | true=>some ⟨y.ask,y.val,.keep⟩
    | false=>none
   | _=>none
  | none=>none
 | none=>none⟩
theorem peekAll_sound {w0 X0 H E w} (h:Rep w0 X0 H E w):∀ {l l':List SV},peekAll H l=some l'->l'.length=l.length/\∀ i v,i<l.length->R w (Xo X0 E H) E (l.getD i .any) v->R w (fun _=>False) E0 (l'.getD i .any) v
 | [],l',hp=>by cases hp; exact ⟨rfl,fun i v hi=>absurd hi (Nat.not_lt_zero _)⟩
 | s::r,l',hp=>by
  simp only [peekAll] at hp
  split at hp
  case h_2=>cases hp
  rename_i s' hs
  split at hp
  case h_2=>cases hp
  rename_i r' hr
  cases hp
  obtain ⟨h1,h2⟩:=peekAll_sound h hr
  refine ⟨by simp [h1],fun i v hi hv=>?_⟩
  cases i with
  | zero=>exact peek_sound h _ _ _ hs hv
  | succ i=>exact h2 i v (by simpa using hi) hv
theorem peekAll_ext {H HF:List SO}(he:Ext H HF):∀ {l l':List SV},peekAll H l=some l'->peekAll HF l=some l'
 | [],l',hp=>hp
 | s::r,l',hp=>by
  simp only [peekAll] at hp ⊢
  split at hp
  case h_2=>cases hp
  rename_i s' hs
  split at hp
  case h_2=>cases hp
  rename_i r' hr
  cases hp
  rw [peek_ext he hs,peekAll_ext he hr]
theorem lend_ok {P:Program}{s:FSpec}(hs:SpecOK P s):SpecOK P (lend s):=by
 refine ⟨hs.1,fun l H HF nm y he hns hrun=>?_,fun l H nm y hrun hask w0 X0 E w hrep hfree vals ha=>?_⟩
 ·simp only [lend] at hrun ⊢
  split at hrun
  case h_2=>cases hrun
  rename_i l' hl'
  rw [peekAll_ext he hl']
  exact hrun
 ·simp only [lend] at hrun
  split at hrun
  case h_2=>cases hrun
  rename_i l' hl'
  split at hrun
  case h_2=>cases hrun
  rename_i y' hy'
  split at hrun
  case h_2=>cases hrun
  rename_i hkeep
  split at hrun
  case h_2=>cases hrun
  rename_i hsc
  cases hrun
  obtain ⟨p1,p2⟩:=peekAll_sound hrep hl'
  have hrep0:Rep w (Fr.of fun _=>False) [] E0 w:=⟨Bel.refl _ _,fun b hb=>hb.elim,fun k e he=>(nomatch he),fun k e he=>(nomatch he),fun k e he=>(nomatch he),fun k e b he=>(nomatch he),fun k k' e e' b he=>(nomatch he)⟩
  have hno:∀ b,¬ Xo (Fr.of fun _=>False) E0 [] b:=fun b hb=>hb.elim id fun ⟨k,e,he,_⟩=>(nomatch he)
  refine (hs.2.2 l' [] 0 y' hy' hask w (Fr.of fun _=>False) E0 w hrep0 (fun so hso=>by rw [hkeep] at hso; cases hso) vals ⟨by rw [p1]; exact ha.1,fun i hi=>?_⟩).mono ?_
  ·rw [p1] at hi
   exact (p2 i _ hi (ha.2 i hi)).mono (fun _ _ _=>rfl) (fun b _ hb=>(hno b hb).elim) (Env.le_refl _)
  ·rintro e w' ⟨v,rfl,E',_,_,_,hr,hv,_⟩
   exact ⟨v,rfl,Goes.world hrep hr.below.all (scal_sound 3 _ _ hsc hv)⟩
end Go.Proofs.YtmhofgchidojoaaGreat.Sx
namespace Go.Proofs.YtmhofgchidojoaaGreat.Num
open Go.RowKit
theorem tmod_neg_of (a b:Int) (hb:1<=b) (h:a.tmod b<0):a.tdiv b-1=a / b/\a<0:=by
 have h1:=Int.mul_tdiv_add_tmod a b
 have h2:=Int.lt_tmod_of_pos a (b:=b) (by omega)
 have ha:a<0:=by
  refine Int.not_le.1 fun hn=>?_
  have:=Int.tmod_nonneg b hn
  omega
 refine ⟨?_,ha⟩
 refine ((Int.ediv_emod_unique (by omega) (r:=a.tmod b+b) (q:=a.tdiv b-1) (a:=a) (b:=b)).2 ⟨?_,by omega,by omega⟩).1.symm
 rw [Int.mul_sub]; omega
theorem tmod_nonneg_of (a b:Int) (hb:1<=b) (h:0<=a.tmod b):a.tdiv b=a / b:=by
 have h1:=Int.mul_tdiv_add_tmod a b
 have h2:=Int.tmod_lt_of_pos a (b:=b) (by omega)
 exact ((Int.ediv_emod_unique (by omega) (r:=a.tmod b) (q:=a.tdiv b) (a:=a) (b:=b)).2 ⟨by omega,by omega,by omega⟩).1.symm
theorem tdiv_bounds (a b:Int) (hb:1<=b):(0<=a->0<=a.tdiv b/\a.tdiv b<=a)/\(a<=0->a<=a.tdiv b/\a.tdiv b<=0):=by
 refine ⟨fun h=>?_,fun h=>?_⟩
 ·rw [Int.tdiv_eq_ediv_of_nonneg h]
  exact ⟨Int.ediv_nonneg h (by omega),Int.ediv_le_self _ h⟩
 ·have e:a.tdiv b = -((-a).tdiv b):=by rw [Int.neg_tdiv]; omega
  rw [e,Int.tdiv_eq_ediv_of_nonneg (by omega)]
  have h1:=Int.ediv_nonneg (a:= -a) (b:=b) (by omega) (by omega)
  have h2:=Int.ediv_le_self b (a:= -a) (by omega)
  omega
theorem quo (a b:Int) (w:World) (ha : -9223372036854775808<=a) (ha':a<=9223372036854775807) (hb:1<=b) (hb':b<=9223372036854775807) :
  Calls Tryz.prog 66 #[.int .i64 a,.int .i64 b] w fun e w'=>e = .returned (.int .i64 (a / b))/\w=w':=by
 have tb:=tdiv_bounds a b hb
 have hw:IntKind.i64.wrap (a.tdiv b)=a.tdiv b:=IntWalk.i64_quo' a b ⟨ha,ha',hb⟩
 by_cases h:a.tmod b<0
 ·obtain ⟨e1,e2⟩:=tmod_neg_of a b hb h
  have H:=Lib.hid e1; clear e1
  have tb2:=tb.2 (by omega)
  clear tb
  by_cases hx:a.tdiv b = -9223372036854775808
  ·exfalso
   have:=Int.mul_tdiv_add_tmod a b
   rw [hx] at this
   have:b*9223372036854775808>=1*9223372036854775808:=Int.mul_le_mul_of_nonneg_right hb (by omega)
   omega
  ·have hx' : -9223372036854775807<=a.tdiv b:=by omega
   clear hx
   go_enter Tryz.func66,Tryz.ntmps66
   go_wp2
   go_ret
   exact ⟨ret_int H.out,rfl⟩
 ·have e1:=tmod_nonneg_of a b hb (by omega)
  have H:=Lib.hid e1; clear e1 tb
  go_enter Tryz.func66,Tryz.ntmps66
  go_wp2
  go_ret
  exact ⟨ret_int H.out,rfl⟩
def nr (a b:Int):Int:=if b-(a-a / b*b)<=a-a / b*b then a / b+1 else a / b
theorem quo_spec (a b:Int) (hb:1<=b):a / b*b<=a/\a<a / b*b+b:=by
 have q1:a / b*b<=a:=by have:=Int.ediv_mul_le a (b:=b) (by omega); omega
 have q2:a<a / b*b+b:=by have:=Int.lt_ediv_add_one_mul_self a (b:=b) (by omega); rw [Int.add_mul] at this; omega
 exact ⟨q1,q2⟩
theorem nr_spec (a b:Int) (hb:1<=b):2*(nr a b*b)<=2*a+b/\2*a+b<2*(nr a b*b)+2*b:=by
 have:=quo_spec a b hb
 unfold nr
 split
 ·rw [Int.add_mul]; omega
 ·omega
theorem quo_bounds (a b:Int) (hb:1<=b):(0<=a->0<=a / b/\a / b<=a)/\(a<0->a<=a / b/\a / b<0):=by
 refine ⟨fun h=>⟨Int.ediv_nonneg h (by omega),Int.ediv_le_self _ h⟩,fun h=>⟨?_,Int.ediv_neg_of_neg_of_pos h (by omega)⟩⟩
 have:=quo_spec a b hb
 have hn:=Int.ediv_neg_of_neg_of_pos h (b:=b) (by omega)
 refine Int.not_lt.1 fun hc=>?_
 have h5:(a / b+1)*b<=(a / b+1)*1:=Int.mul_le_mul_of_nonpos_left (by omega) hb
 have h6:(a / b+1)*b=a / b*b+b:=by rw [Int.add_mul,Int.one_mul]
 omega
theorem nr_of_ge {a b:Int}(h:b-(a-a / b*b)<=a-a / b*b):a / b+1=nr a b:=by unfold nr; rw [if_pos h]
theorem nr_of_lt {a b:Int}(h:¬ b-(a-a / b*b)<=a-a / b*b):a / b=nr a b:=by unfold nr; rw [if_neg h]
def cutI (x low high:Int):Int:=low+x % (high-low+1)
theorem cutI_range (x low high:Int) (h:low<=high):low<=cutI x low high/\cutI x low high<=high:=by
 unfold cutI
 have h1:=Int.emod_nonneg x (b:=high-low+1) (by omega)
 have h2:=Int.emod_lt_of_pos x (b:=high-low+1) (by omega)
 omega
theorem cut_plain (x n:Int) (hn:1<=n):x.tmod n % n=x % n/\ -n<x.tmod n/\x.tmod n<n:=by
 have h1:=Int.lt_tmod_of_pos x (b:=n) (by omega)
 have h2:=Int.tmod_lt_of_pos x (b:=n) (by omega)
 refine ⟨?_,h1,h2⟩
 have h3:=Int.mul_tdiv_add_tmod x n
 rw [<-Int.mul_add_emod_self_left n (x.tdiv n) (x.tmod n),h3]
end Go.Proofs.YtmhofgchidojoaaGreat.Num
