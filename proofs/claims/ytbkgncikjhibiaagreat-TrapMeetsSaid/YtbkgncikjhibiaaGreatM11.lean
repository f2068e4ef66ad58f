import Derived.Test.YtbkgncikjhibiaaGreatM10
set_option maxRecDepth 100000
set_option linter.unusedSimpArgs false
set_option linter.unusedVariables false
set_option linter.unusedSectionVars false
open Go.ConcN (sumTo upd sumTo_upd upd_ne upd_same)
/- Part 11 of the texts that the law's proof leans on. -/
namespace Go.Proofs.YtbkgncikjhibiaaGreat
namespace Hid
open Go Go.Proofs Go.RowKit Go.Conc Ar
variable [Junk]
noncomputable def oIx:Oper:=bH0.getD 0 default
noncomputable def oLd:Oper:=bH0.getD 1 default
theorem ix_op (a:Ar) (hb:a.b3=none) (k x26 x31 x33 x34 x35:Value):execOp (a.TO k x26 x31 x33 x34 x35 [0,1,2,3,4]).eval oIx=(Instr.indexAt 32 (.slice none a.n3 a.c3) k).bind fun v=>Sem.pure (Next.value v):=by
 obtain ⟨b0,n0,c0,i1,i2,b3,n3,c3,i4,m,w,rest⟩:=a;simp only at hb
 subst hb;kernel_rfl
theorem und46:twp.underlying 32=some (.slice 3):=by kernel_rfl
theorem ca7 (a:Ar) (hb:a.b3=none) (k:Nat) (x26 x31 x33 x34 x35:Value) (w:World):∃ v w' es,(execOp (a.TO (.int .i64 k) x26 x31 x33 x34 x35 [0,1,2,3,4]).eval oIx).runT twp w #[]=(.halt (.panic v) w',es):=by
 have h1:∃ v w',(Instr.indexAt 32 (.slice none a.n3 a.c3) (.int .i64 k)).run twp w = .halt (.panic v) w':=by
  obtain ⟨s,w',h⟩:=run_boundsPanic (P:=twp) (w:=w) (α:=Value) .i64 k 0 .index;exact ⟨_,w',(Go.Lib.run_indexAt_nil w 32 3 a.n3 a.c3 .i64 k und46).trans h⟩
 obtain ⟨v,w',h⟩:=h1;rw [ix_op a hb,Sem.runT_bind'];rw [<-Sem.runT_fst twp _ w #[]] at h;cases hr:(Instr.indexAt 32 (.slice none a.n3 a.c3) (.int .i64 k)).runT twp w #[] with
 | mk r es=>
  rw [hr] at h;simp only at h
  subst h;exact ⟨v,w',es,rfl⟩
theorem bi1 {p P:Program}{f:FuncId}{Q:Value->World->Prop}{fr:Frame}{o:Oper}{zs:List Frame}{L:World}(hx:AtOp fr o) (hd:fr.defers=[]) (hr:∀ w,∃ v w' es,(execOp fr.eval o).runT p w #[]=(.halt (.panic v) w',es)) (hz:∀ z∈zs,z.defers=[]/\(z.mode = .run\/z.mode = .returning))
  (ht:Tree p (AtRet p f Q) (G fr (zs++[dmF p])) L):False:=by
 obtain ⟨g',L',es,e,ht',_⟩:=ht.goes (as9 hx.mode) L.drawn;have hearly:(fr.kind==CallKind.early)=false:=by rw [hx.kind]; rfl
 obtain ⟨v,w',es',hs⟩:=hr (L.at L.drawn);rw [hx.step] at e;unfold stepG.apply at e;simp only [hs,aq2,xh,hearly,lE,xn,ac7,GStep.go.injEq] at e;refine aO2 (P:=P) ht' ?_;rw [<-e.1];have:fr.raise [{ v,recovered:=false }]={ fr with mode:= .panicking [{ v,recovered:=false }] }:=by
  unfold Frame.raise;rw [hx.mode]
 rw [this];exact .fr rfl hd hz
theorem ld_A (a:Ar) (k x31 x33 x34 x35 v:Value) (ad:Addr):runA twp (execOp (a.TO k (.pointer (some ad)) x31 x33 x34 x35 [1,2,3,4]).eval oLd) [.v v]=some (.inl (.value v),[.rd .plain ad v]):=by kernel_rfl
theorem g_ix:oIx.guard=none:=by kernel_rfl
theorem g_ld:oLd.guard=none:=by kernel_rfl
section
variable {a:Ar}{x:Frame}{xs:List Frame}{Shun:Loc->Prop}{N:Nat}{B0:Nat}{Post:Value->World->Prop}{f:FuncId}{Q:Value->World->Prop}
theorem b33 (hE:EOK (env a x xs Shun N) B0) (hG:GB twp B0) (hcs:CsOK x xs) (h8:a.n3<=8) {g0:Goroutine}{L0:World}
  (HPX:∀ x26 x30 x31 x33 x34 x35 L,Tree twp (AtRet twp f Q) (G (a.TB a.n3 x26 x30 x31 x33 x34 x35) (csT x xs)) L->Later twp g0 L0 (G (a.TB a.n3 x26 x30 x31 x33 x34 x35) (csT x xs)) L->PXL a x xs Shun N B0 Post L) :
  ∀ (j k:Nat),k+j=a.n3->∀ (x26 x30 x31 x33 x34 x35:Value) (L:World),Tree twp (AtRet twp f Q) (G (a.TB k x26 x30 x31 x33 x34 x35) (csT x xs)) L->Later twp g0 L0 (G (a.TB k x26 x30 x31 x33 x34 x35) (csT x xs)) L->
   ∀ (x8 x10 x11 x12:Value) (y:Nat->Value),TW a x xs Shun N B0 Post R1 k (G (a.WRc x8 x10 x11 x12 y) [gx]) L:=by
 intro j;induction j with
 | zero=>
  intro k hk x26 x30 x31 x33 x34 x35 L ht hl x8 x10 x11 x12 y;obtain rfl:k=a.n3:=by omega
  refine WW.recv (E:=env a x xs Shun N) hE (ak9 hE.ap) (s:=(a.WRc x8 x10 x11 x12 y,[gx])) (z:=z0) (fun C _ _=>ah9 (bY5 a x8 x10 x11 x12 y) (w:=C) trivial) (fun h=>absurd h (xr _)) fun _=>?_
  rw [cn9];refine WW.run (E:=env a x xs Shun N) hE rp2 5 (s:=(a.WR1 x8 (.tuple #[z0,.bool false]) x11 x12 y,[gx])) (cj2 a x8 x11 x12 y) trivial ?_;exact cf0 hE (HPX _ _ _ _ _ _ L ht hl) x8 x12 y
 | succ j ih=>
  intro k hk x26 x30 x31 x33 x34 x35 L ht hl x8 x10 x11 x12 y;have hk3:k<a.n3:=by omega
  have hrB:=bY2 a (csT x xs) (k:Int) x26 x30 x31 x33 x34 x35;rw [lj (show (k:Int)<(a.n3:Int) by omega)] at hrB;obtain ⟨ht1,hl1⟩:=ad6 3 hrB (L:=L) trivial ht;obtain ⟨ht2,hl2⟩:=ad6 6 (cj3 a (csT x xs) (k:Int) x26 x31 x33 x34 x35) (L:=L) trivial ht1;refine WW.recv (E:=env a x xs Shun N) hE (ak9 hE.ap) (s:=(a.WRc x8 x10 x11 x12 y,[gx])) (z:=z0) (fun C _ _=>ah9 (bY5 a x8 x10 x11 x12 y) (w:=C) trivial) (fun _=>?_) (fun h=>absurd h (Nat.ne_of_lt hk3));rw [cn9];refine WW.run (E:=env a x xs Shun N) hE rp1 11 (s:=(a.WR1 x8 (.tuple #[.int .i64 k,.bool true]) x11 x12 y,[gx])) (cj5 a k x8 x11 x12 y) trivial ?_;refine WW.draw (E:=env a x xs Shun N) hE (ak9 hE.ap) rp1 (fr:=a.WJ (.int .i64 k) y) (id:=4) (ops:=opsW) (k:= .inBlock 1::itW) rfl (congrArg (fun c=>Item.code c:: .inBlock 1::itW) b36) fun n=>?_
  have hsch:=ci5 acycW bV0 ((env a x xs Shun N).P.follows .mixedOrders) n;cases hb3:a.b3 with
  | none=>
   exfalso;exact bi1 (P:=Tryz.prog) (zs:=x::xs) (b43 _ _ _ _ _ _ _ _ oIx (by kernel_rfl) g_ix) rfl (fun w=>ca7 a hb3 k x26 x31 x33 x34 x35 w) hcs ht2
  | some ad=>
   obtain ⟨ht3,hl3⟩:=ad6 1 (ix_T a ad hb3 k hk3 h8 (csT x xs) x26 x31 x33 x34 x35) (L:=L) trivial ht2;refine WW.know (E:=env a x xs Shun N) fun hn=>?_
   obtain ⟨v1,hv1⟩:=bu3 (P:=Tryz.prog) (zs:=x::xs) (b43 _ _ _ _ _ _ _ _ oLd (by kernel_rfl) g_ld) rfl (ld_A a (.int .i64 k) x31 x33 x34 x35 undef (ad.add (k*1))) hn hcs ht3;obtain ⟨ht4,hl4⟩:=ad6 1 (ld_T a (csT x xs) (.int .i64 k) x31 x33 x34 x35 v1 (ad.add (k*1))) (L:=L) ⟨⟨hv1,trivial⟩,trivial⟩ ht3;obtain ⟨ht5,hl5⟩:=ad6 1 (co9 a (csT x xs) (.int .i64 k) (p1 a ad k) v1 x33 x34 x35) (L:=L) trivial ht4;refine b35 hE hG hcs hb3 hk3 h8 hv1 (fun r L' ht6 hl6 y'=>?_) ht5 _ [] y hsch (by simp) (by simp) (fun i hi=>by cases hi);have hrD:=cj1 a (csT x xs) (k:Int) (p1 a ad k) v1 r x34 (p2 a k);rw [bW6 (by omega)] at hrD;obtain ⟨ht7,hl7⟩:=ad6 6 hrD (L:=L') trivial ht6;refine WW.run (E:=env a x xs Shun N) hE rp1 5 (s:=(a.WO (.int .i64 k) y' [],[gx])) (ck6 a (.int .i64 k) y') trivial ?_;exact ih (k+1) (by omega) _ _ _ _ _ _ L' ht7 (hl.trans (hl1.trans (hl2.trans (hl3.trans (hl4.trans (hl5.trans (hl6.trans hl7))))))) _ _ _ _ _
end
end Hid
namespace Hid
open Go Go.Proofs Go.RowKit Go.Conc Ar
variable [Junk]
section
variable {a:Ar}{x:Frame}{xs:List Frame}{Shun:Loc->Prop}{N:Nat}{B0:Nat}{Post:Value->World->Prop}{f:FuncId}{Q:Value->World->Prop}
theorem cg3 {A:Area}{B d:Nat}(hA:Apart A) {es:Array Event}(he:∀ e∈es,Ev0 A B e) (t:Trace) (fn:FuncId) (pos:String) (h:T0 A B d t):T0 A B (deafBehind d es) (t++MemOp.ofEvents 0 fn pos es):=by
 obtain ⟨⟨r,h⟩,hd⟩:=h;exact ⟨⟨r,h.app0 hA (lf _) ae0 (ar7 he).1 (ar7 he).2⟩,by rw [Deaf_own,hd]⟩
theorem sn_en:seen Tryz.prog 42 (esOf [.mk (.extern 55),.mk .enable]).toArray = #[mkE .enable]:=by kernel_rfl
theorem sn_sh (a:Ar):seen Tryz.prog 42 (esOf a.dShW).toArray = #[]:=by kernel_rfl
theorem sn_ac (a:Ar):seen Tryz.prog 42 (esOf [.mk (.extern 67),.mk (.acquire ⟨a.m+9,0,none⟩)]).toArray = #[mkE (.acquire ⟨a.m+9,0,none⟩)]:=by kernel_rfl
theorem sn_rd (a:Ar):seen Tryz.prog 27 (esOf [.rd .plain ⟨a.m+6,0,none⟩ a.V]).toArray = #[⟨.cell ⟨a.m+6,0,none⟩,false,false⟩]:=by kernel_rfl
theorem sn_87 (a:Ar):seen Tryz.prog 62 (esOf [.mk (.extern 81),a.rdW 0]).toArray = #[rdE (a.m+9) 0]:=by kernel_rfl
theorem cd2:deafBehind 1 #[mkE .enable]=0:=by rfl
theorem cd1 (a:Ar):deafBehind 1 #[rdE (a.m+9) 0]=1:=by rfl
theorem bh3 {C:World}(hE:EOK (env a x xs Shun N) B0) (hS:∀ l,Shun l->∃ ad,l = .cell ad/\ad.block<a.m) (hb:FB (bxOf a) C) (hw:WgS (a.m+9) 88 C 0 0) {B:Nat}(hB:a.m+10<=B) {K:World->(Trace->Prop)->Prop}(hK:∀ d,K (C.at d) (Past (env a x xs Shun N).A.bF2 B)) :
  aR8 Tryz.prog a.endL (T0 (env a x xs Shun N).A B 1) C K:=by
 refine ⟨fun d=>⟨trivial,trivial,trivial⟩,T0 (env a x xs Shun N).A B 0,aB0,fun t fn pos ht=>?_,fun d=>?_⟩
 ·rw [sn_en];have:=cg3 (d:=1) hE.ap (es:=#[mkE .enable]) (fun e he=>by simp at he; subst he; exact br9 rfl (by simp) trivial) t fn pos ht
  rw [cd2] at this;exact this
 refine ⟨fun d=>?_,T0 (env a x xs Shun N).A B 0,aB0,fun t fn pos ht=>?_,fun d=>?_⟩
 ·have:=(af4 hw).2.2.1
  exact ⟨this,this,trivial⟩
 ·rw [sn_sh,ofEvents_none];simpa using ht
 refine ⟨fun d=>⟨trivial,trivial,trivial⟩,Past (env a x xs Shun N).A.bF2 B,ad2,fun t fn pos ht=>?_,fun d=>?_⟩
 ·rw [sn_ac];obtain ⟨⟨r,ht⟩,hd⟩:=ht;have:=ht.acquire (show a.m+9<B by omega) hd fn pos
  rw [ofEvents_eq];simp only [List.map_toArray,xM,List.map_nil];exact this
 refine ⟨fun d=>⟨cell_of (T:=60) (hb (a.m+6) _ (by simp [bxOf])),trivial⟩,Past (env a x xs Shun N).A.bF2 B,ad2,fun t fn pos ht=>?_,fun d=>hK _⟩
 ·rw [sn_rd];refine ht.own fun e he=>?_
  simp at he;subst he;refine evL_cell _ _ (fun hs=>?_) (show a.m+6<B by omega);rcases hs with hs | ⟨ad,e,hs⟩
  ·obtain ⟨ad,e,hlt⟩:=hS _ hs;cases e;simp at hlt;omega
  ·cases e;have hs:a.m+6=a.m+9:=hs;omega
theorem pxl (hE:EOK (env a x xs Shun N) B0) (hS:∀ l,Shun l->∃ ad,l = .cell ad/\ad.block<a.m) (hx:@FrOK noLoops twp Tryz.prog x) (hxs:∀ z∈xs,@FrOK noLoops twp Tryz.prog z) {L:World}(hcl:@Claim noLoops _ twp Tryz.prog B0 Post (G (x.finish a.V) (xs++[dmF twp])) L):PXL a x xs Shun N B0 Post L:=by
 intro f d s hpx gs C sl t q h;obtain ⟨rfl,n,ans,ls,hr,hls⟩:=hpx;have hlow:a.m+10<=L.heap.size:=h.low;have hsz:C.heap.size=L.heap.size:=h.wr.size;have hB0:B0<=a.m+9:=hE.w0;have fin:∀ (C':World),(∃ d,C'=C.at d)->∀ d gs' sl' t' q',gs'.size=gs.size->gs'[0]?=some (G (x.finish a.V) xs)->Leavers Tryz.prog t' gs' q'->Past (env a x xs Shun N).A.bF2 C.heap.size t'->Wins Tryz.prog Post (crowd gs' (C'.at d) sl') t':=by
  rintro C' ⟨d0,rfl⟩ d gs' sl' t' q' _ g0 hl hp;refine hcl (x.finish a.V) xs rfl (at3 hx _) hxs _ _ gs' _ sl' t' q' ⟨hl,hp,⟨h.wr.os,h.wr.out,h.wr.size,h.wr.blk,h.wr.nv,h.wr.np,h.wr.lp⟩,by omega,fun l hl=>?_,h.tape,h.old,by omega⟩ g0;rcases hl with hl | ⟨ad,rfl,hl⟩
  ·exact h.shun l hl
  ·obtain ⟨T,fz,hh⟩:=h.hidw;exact ⟨ad,T,fz,rfl,by rw [hl]; exact hh⟩
 refine a00 n hr (N:=gs.size) (T:=T0 (env a x xs Shun N).A C.heap.size 1) aB0 rfl h.g0 h.lv ⟨h.tr,h.d0⟩ fun d=>?_
 rcases hls with rfl | rfl
 ·exact bh3 (C:=C.at d) hE hS h.bx h.wg (by omega) fun d2=>fin _ ⟨d2,rfl⟩
 ·refine ⟨fun e=>⟨trivial,(af4 h.wg).1,trivial⟩,T0 (env a x xs Shun N).A C.heap.size 1,aB0,fun t fn pos ht=>?_,fun e=>?_⟩
  ·rw [sn_87];have:=cg3 (d:=1) hE.ap (es:=#[rdE (a.m+9) 0]) (fun e he=>by simp at he; subst he; exact aQ6 (show a.m+9<C.heap.size by omega) 0 false) t fn pos ht
   rw [cd1] at this;exact this
  ·exact bh3 (C:=C.at e) hE hS h.bx h.wg (by omega) fun d2=>fin _ ⟨d2,rfl⟩
end
end Hid
namespace Hid
open Go Go.Proofs Go.RowKit Go.Conc Ar
variable [Junk]
structure Gr (w0:World) (os:List Obj) (w:World):Prop where
 heap:w.heap=w0.heap++os.toArray
 sys:w.os=w0.os
 out:w.output=w0.output
 tape:w.tape=w0.tape
section
variable {w0 w:World}{os:List Obj}
theorem Gr.self (w0:World):Gr w0 [] w0:=⟨by simp,rfl,rfl,rfl⟩
theorem Gr.size (h:Gr w0 os w):w.heap.size=w0.heap.size+os.length:=by rw [h.heap]; simp
theorem Gr.get (h:Gr w0 os w) (i:Nat):w.heap[w0.heap.size+i]?=os[i]?:=by
 rw [h.heap,xq (by omega)];simp
theorem Gr.old (h:Gr w0 os w) {b:Nat}(hb:b<w0.heap.size):w.heap[b]?=w0.heap[b]?:=by rw [h.heap,xj hb]
theorem Gr.push (h:Gr w0 os w) (o:Obj):Gr w0 (os++[o]) { w with heap:=w.heap.push o }:=⟨by simp [h.heap],h.sys,h.out,h.tape⟩
theorem Gr.at (h:Gr w0 os w) (d:Nat):Gr w0 os (w.at d):=⟨h.heap,h.sys,h.out,h.tape⟩
theorem Gr.set (h:Gr w0 os w) {i off:Nat}{v:Value}{c:Array Value}{T:TypeId}{fz:Nat×Nat}(hi:os[i]?=some (.cells c T fz)):Gr w0 (os.set i (.cells (c.setIfInBounds off v) T fz)) (w.setCell ⟨w0.heap.size+i,off,none⟩ v):=by
 refine ⟨?_,h.sys,h.out,h.tape⟩;have hsz:(w.setCell ⟨w0.heap.size+i,off,none⟩ v).heap.size=w.heap.size:=by simp [World.setCell]
 refine Array.ext_getElem? fun b=>?_
 rw [heap_set];by_cases hb:b=w0.heap.size+i
 ·subst hb;rw [lm rfl,h.get,hi,xq (by omega)];have hlt:i<os.length:=(lT.1 hi).1;simp [hlt]
 ·rw [lr hb,h.heap];by_cases hlt:b<w0.heap.size
  ·rw [xj hlt,xj hlt]
  ·rw [xq (by omega),xq (by omega)];simp;rw [List.getElem?_set_ne (by omega)]
theorem Gr.cell (h:Gr w0 os w) {i off:Nat}{c:Array Value}{T:TypeId}{fz:Nat×Nat}{v:Value}(hi:os[i]?=some (.cells c T fz)) (hc:c[off]?=some v):w.cell? ⟨w0.heap.size+i,off,none⟩=some v:=by
 have:=h.get i
 rw [hi] at this;simp [World.cell?,this,hc]
theorem Gr.frozen (h:Gr w0 os w) {i off:Nat}{c:Array Value}{T:TypeId}(hi:os[i]?=some (.cells c T (0,0))):w.frozen? ⟨w0.heap.size+i,off,none⟩=false:=by
 have:=h.get i
 rw [hi] at this;simp [World.frozen?,this]
variable [LoopOK] {P:Program}{K:World->(Trace->Prop)->Prop}{r:List (FuncId×List Did)}{f:FuncId}
theorem aT9 {T:Trace->Prop}(hT:bh6 T) (h:Gr w0 os w) {o:Obj}{n:Nat}(hn:n=w0.heap.size+os.length) (k:∀ w',Gr w0 (os++[o]) w'->aR8 P r T w' K):aR8 P ((f,[.nw o n])::r) T w K:=
 ⟨fun d=>⟨(h.at d).size.trans hn.symm,trivial⟩,T,hT,fun t fn pos ht=>by rw [show seen P f (esOf [.nw o n]).toArray = #[] from rfl,ofEvents_none]; simpa using ht,fun d=>k _ ((h.at d).push o)⟩
theorem al_rd {Shun:Loc->Prop}{B:Nat}(h:Gr w0 os w) {i off:Nat}{c:Array Value}{T:TypeId}{fz:Nat×Nat}{v:Value}(hi:os[i]?=some (.cells c T fz)) (hc:c[off]?=some v) (hs:seen P f (esOf [.rd .plain ⟨w0.heap.size+i,off,none⟩ v]).toArray = #[⟨.cell ⟨w0.heap.size+i,off,none⟩,false,false⟩])
  (hS:¬ Shun (.cell ⟨w0.heap.size+i,off,none⟩)) (hB:w0.heap.size+i<B) (k:∀ w',Gr w0 os w'->aR8 P r (Past Shun B) w' K):aR8 P ((f,[.rd .plain ⟨w0.heap.size+i,off,none⟩ v])::r) (Past Shun B) w K:=
 ⟨fun d=>⟨(h.at d).cell hi hc,trivial⟩,Past Shun B,ad2,fun t fn pos ht=>by rw [hs]; exact ht.own fun e he=>by simp at he; subst he; exact evL_cell _ _ hS hB,fun d=>k _ (h.at d)⟩
theorem cp1 {Shun:Loc->Prop}{B:Nat}(h:Gr w0 os w) {i off:Nat}{c:Array Value}{T:TypeId}{v u:Value}(hi:os[i]?=some (.cells c T (0,0))) (hc:c[off]?=some u) (hv:(∀ x,v≠.agg x)/\∀ x,v≠.tuple x) (hs:seen P f (esOf [.wr .plain ⟨w0.heap.size+i,off,none⟩ v]).toArray = #[⟨.cell ⟨w0.heap.size+i,off,none⟩,true,false⟩])
  (hS:¬ Shun (.cell ⟨w0.heap.size+i,off,none⟩)) (hB:w0.heap.size+i<B) (k:∀ w',Gr w0 (os.set i (.cells (c.setIfInBounds off v) T (0,0))) w'->aR8 P r (Past Shun B) w' K):aR8 P ((f,[.wr .plain ⟨w0.heap.size+i,off,none⟩ v])::r) (Past Shun B) w K:=
 ⟨fun d=>⟨⟨⟨_,(h.at d).cell hi hc⟩,(h.at d).frozen hi,hv.1,hv.2⟩,trivial⟩,Past Shun B,ad2,fun t fn pos ht=>by rw [hs]; exact ht.own fun e he=>by simp at he; subst he; exact evL_cell _ _ hS hB,fun d=>k _ ((h.at d).set hi)⟩
end
def nwL (f:FuncId):Nat->List Obj->List (FuncId×List Did)
 | _,[]=>[]
 | r,o::l=>(f,[.nw o r])::nwL f (r+1) l
theorem br7 {w0:World}{f:FuncId}:∀ (l os:List Obj) (w:World) (r:Nat),Gr w0 os w->r=w0.heap.size+os.length->bW3 (nwL f r l) w/\Gr w0 (os++l) (wL (nwL f r l) w)
 | [],os,w,r,h,_=>⟨trivial,by simpa [nwL,wL] using h⟩
 | o::l,os,w,r,h,hr=>by
  obtain ⟨h1,h2⟩:=br7 (f:=f) l (os++[o]) _ (r+1) (h.push o) (by simp; omega);refine ⟨⟨⟨h.size.trans hr.symm,trivial⟩,h1⟩,?_⟩;rw [show os++o::l=os++[o]++l by simp];exact h2
theorem nt49:((Tryz.prog.funcs[27]?).map (·.ntmps)).getD 0=38:=by kernel_rfl
theorem nt49T:((twp.funcs[27]?).map (·.ntmps)).getD 0=38:=by kernel_rfl
theorem bd49 (c:Code):((Tryz.prog.funcs[27]?).bind (·.body)).getD c=c49:=by kernel_rfl
theorem bd49T (c:Code):((twp.funcs[27]?).bind (·.body)).getD c=as7:=by kernel_rfl
theorem cc4 (args:Array Value):∃ l:List Value,38<=l.length/\Frame.enter Tryz.prog 27 args .normal=fr ⟨l⟩ [.code c49]/\Frame.enter twp 27 args .normal=fr ⟨l⟩ [.code as7]:=by
 refine ⟨(args++Array.replicate (38-args.size) undef).toList,?_,?_,?_⟩
 ·simp; omega
 ·unfold Frame.enter fr;simp only [nt49,bd49]
 ·unfold Frame.enter fr;simp only [nt49T,bd49T]
theorem b65 (l:List Value) (h:38<=l.length):∃ (w:Nat->Value) (rest:List Value),l=w 0::w 1::w 2::w 3::w 4::w 5::w 6::w 7::w 8::w 9::w 10::w 11::w 12::w 13::w 14::w 15::w 16::w 17::w 18::w 19::w 20::w 21::w 22::w 23::w 24::w 25::w 26::w 27::w 28::w 29::w 30::w 31::w 32::w 33::w 34::w 35::w 36::w 37::rest:=by
 refine ⟨fun i=>l.getD i undef,l.drop 38,?_⟩;have key:l=(List.range 38).map (fun i=>l.getD i undef)++l.drop 38:=by
  refine List.ext_getElem? fun i=>?_
  by_cases hi:i<38
  ·rw [xe (by simpa using hi),lV,uu hi,lw (by omega)];simp [la,lw (show i<l.length by omega)]
  ·rw [lQ (by simp; omega),xv];simp;congr 1;omega
 exact key
end Hid
namespace Hid
open Go Go.Proofs Go.RowKit Go.Conc Ar
variable [Junk]
section
variable {a:Ar}{x:Frame}{xs:List Frame}{Shun:Loc->Prop}{N:Nat}{B0:Nat}{Post:Value->World->Prop}{f:FuncId}{Q:Value->World->Prop}
noncomputable def osP (a:Ar) (st:Value):List Obj:=[.cells #[a.v0] 22 (0,0),.cells #[.int .i64 a.i1] 3 (0,0),.cells #[.int .i64 a.i2] 3 (0,0),.cells #[a.v3] 32 (0,0),.cells #[.int .i64 a.i4] 3 (0,0),.cells (Array.replicate a.n3 nul) 62 (0,0),.cells #[a.V] 60 (0,0),.chan 0 #[] false 0 0 false,.cells #[a.chV] 78 (0,0),.cells #[st,.int .u32 0] 88 (0,0)]
noncomputable def osT (a:Ar):List Obj:=[.cells #[] 22 (0,0),.cells #[] 3 (0,0),.cells #[] 3 (0,0),.cells #[] 32 (0,0),.cells #[] 3 (0,0),.cells (Array.replicate a.n3 nul) 62 (0,0),.cells #[] 60 (0,0),.chan 0 #[] false 0 0 false,.cells #[] 78 (0,0),.cells #[] 88 (0,0)]
theorem bU9 (a:Ar):a.cc9=nwL 27 a.m (osT a):=rfl
theorem s49r (ad:Addr) (v:Value):seen Tryz.prog 27 (esOf [.rd .plain ad v]).toArray = #[⟨.cell ad,false,false⟩]:=by kernel_rfl
theorem s49w (ad:Addr) (v:Value):seen Tryz.prog 27 (esOf [.wr .plain ad v]).toArray = #[⟨.cell ad,true,false⟩]:=by kernel_rfl
theorem cd8 {C:World}{B:Nat}(hm:a.m=C.heap.size) (hB:a.m+9<=B) (hS:∀ l,Shun l->∃ ad,l = .cell ad/\ad.block<a.m) {K:World->(Trace->Prop)->Prop}(hK:∀ C',Gr C (osP a (.int .u64 0)) C'->K C' (Past Shun B)):∀ C0,Gr C [] C0->aR8 Tryz.prog a.cd0 (Past Shun B) C0 K:=by
 intro C0 h0;have hns:∀ i off,¬ Shun (.cell ⟨C.heap.size+i,off,none⟩):=fun i off hs=>by
  obtain ⟨ad,e,hlt⟩:=hS _ hs;cases e;simp at hlt;omega
 unfold cd0;rw [hm];refine aT9 ad2 h0 (by simp) fun C1 h1=>?_
 refine aT9 ad2 h1 (by simp) fun C2 h2=>?_
 refine aT9 ad2 h2 (by simp) fun C3 h3=>?_
 refine aT9 ad2 h3 (by simp) fun C4 h4=>?_
 refine aT9 ad2 h4 (by simp) fun C5 h5=>?_
 refine al_rd h5 (i:=3) (off:=0) rfl rfl (s49r _ _) (hns _ _) (by omega) fun C6 h6=>?_
 refine aT9 ad2 h6 (by simp) fun C7 h7=>?_
 refine aT9 ad2 h7 (by simp) fun C8 h8=>?_
 refine cp1 h8 (i:=6) (off:=0) rfl rfl ⟨fun _ e=>(by cases e),fun _ e=>(by cases e)⟩ (s49w _ _) (hns _ _) (by omega) fun C9 h9=>?_
 refine aT9 ad2 h9 (by simp) fun C10 h10=>?_
 refine aT9 ad2 h10 (by simp) fun C11 h11=>?_
 refine cp1 h11 (i:=8) (off:=0) rfl rfl ⟨fun _ e=>(by cases e),fun _ e=>(by cases e)⟩ (s49w _ _) (hns _ _) (by omega) fun C12 h12=>?_
 refine aT9 ad2 h12 (by simp) fun C13 h13=>?_
 refine hK C13 ?_;have e7:a.chV = .chan (some (C.heap.size+7)):=by unfold chV; rw [hm]
 unfold osP;rw [e7];exact h13
theorem sB1:seen Tryz.prog 38 (esOf [.mk (.extern 54),.mk .disable]).toArray = #[mkE .disable]:=by kernel_rfl
theorem sB2:seen Tryz.prog 38 (esOf [.mk (.extern 56)]).toArray = #[]:=by kernel_rfl
theorem sB3 (a:Ar):seen Tryz.prog 60 (esOf [.mk (.extern 80),.rd .atomic ⟨a.m+9,0,none⟩ (.int .u64 0),.wr .atomic ⟨a.m+9,0,none⟩ KV]).toArray = #[rdE (a.m+9) 0,wrE (a.m+9) 0]:=by kernel_rfl
theorem sB4 (a:Ar):seen Tryz.prog 38 (esOf a.dShW).toArray = #[]:=by kernel_rfl
theorem sB5 (a:Ar):seen Tryz.prog 38 (esOf [.mk (.extern 61),.mk (.read ⟨a.m+9,1,none⟩)]).toArray = #[mkE (.read ⟨a.m+9,1,none⟩)]:=by kernel_rfl
theorem sB6:seen Tryz.prog 38 (esOf [.mk (.extern 55),.mk .enable]).toArray = #[mkE .enable]:=by kernel_rfl
theorem bR5 {A:Area}{B d:Nat}{es:Array Event}(he:∀ e∈es,A.okp B (.ofEvent e)) (t:Trace) (fn:FuncId) (pos:String) (h:P0 A B d t):P0 A B (deafBehind d es) (t++MemOp.ofEvents 0 fn pos es):=
 h.app (lf _) ae0 (fun op hop=>by obtain ⟨e,hm,rfl⟩:=lI hop; exact he e hm) (by rw [Deaf_own,h.deaf])
theorem bZ2 {A:Area}{B:Nat}(hl:A.Wg<B) (i:Nat) (wr:Bool):A.okp B (.ofEvent ⟨.cell ⟨A.Wg,i,none⟩,wr,true⟩):=by
 have e:MemAct.ofEvent ⟨.cell ⟨A.Wg,i,none⟩,wr,true⟩ = .access ⟨.cell ⟨A.Wg,i,none⟩,wr,true⟩:=by cases wr<;>rfl
 rw [e];refine ⟨fun b hb _=>?_,by simp,hl⟩;simp only [MemAct.touch?,sk] at hb;subst hb;simp
theorem bZ1 {A:Area}{B:Nat}{m:Mark}(h:(MemAct.mark m).touch?=none) (hr:∀ x,m≠.release x) (hl:(MemAct.mark m).low B):A.okp B (.ofEvent (mkE m)):=
 ⟨fun b hb=>(by rw [show MemAct.ofEvent (mkE m) = .mark m from rfl,h] at hb; cases hb),fun e=>hr _ (MemAct.mark.inj e),hl⟩
theorem b37 {C C':World}{st:Int}(hm:a.m=C.heap.size) (h:Gr C (osP a (.int .u64 st)) C'):WgS (a.m+9) 88 C' st 0:=by
 unfold WgS;rw [hm,h.get];rfl
theorem cd7 {C:World}{A:Area}{B:Nat}(hm:a.m=C.heap.size) (hW:A.Wg=a.m+9) (hB:a.m+10<=B) {K:World->(Trace->Prop)->Prop}(hK:∀ C',Gr C (osP a KV) C'->K C' (P0 A B 0)):∀ C0,Gr C (osP a (.int .u64 0)) C0->aR8 Tryz.prog a.co7 (P0 A B 0) C0 K:=by
 intro C0 h0;have hw0:=fun d=>af4 (b37 hm (h0.at d))
 refine ⟨fun d=>⟨trivial,trivial,trivial⟩,P0 A B 1,an2,fun t fn pos ht=>?_,fun d1=>?_⟩
 ·rw [sB1];exact bR5 (d:=0) (es:=#[mkE .disable]) (fun e he=>by simp at he; subst he; exact bZ1 rfl (by simp) trivial) t fn pos ht
 refine ⟨fun d=>⟨trivial,trivial⟩,P0 A B 1,an2,fun t fn pos ht=>?_,fun d2=>?_⟩
 ·rw [sB2,ofEvents_none]; simpa using ht
 refine ⟨fun d=>⟨trivial,(hw0 d).1,⟨⟨_,(hw0 d).1⟩,(hw0 d).2.2.2 0,fun _ e=>(by cases e),fun _ e=>(by cases e)⟩,trivial⟩,P0 A B 1,an2,fun t fn pos ht=>?_,fun d3=>?_⟩
 ·rw [sB3];exact bR5 (d:=1) (es:=#[rdE (a.m+9) 0,wrE (a.m+9) 0]) (fun e he=>by
   simp at he;rcases he with rfl | rfl
   ·have:=bZ2 (A:=A) (B:=B) (by omega) 0 false
    rw [hW] at this; exact this
   ·have:=bZ2 (A:=A) (B:=B) (by omega) 0 true
    rw [hW] at this; exact this) t fn pos ht
 have h1':∀ d,Gr C (osP a KV) (((C0.at d).setCell ⟨a.m+9,0,none⟩ KV)):=fun d=>by
  have:=(h0.at d).set (i:=9) (off:=0) (v:=KV) (c:=#[.int .u64 0,.int .u32 0]) (T:=88) (fz:=(0,0)) rfl
  rw [<-hm] at this;exact this
 refine ⟨fun d=>?_,P0 A B 1,an2,fun t fn pos ht=>?_,fun d4=>?_⟩
 ·have:=(af4 (b37 (st:=4294967296) hm ((h1' d3).at d))).2.2.1
  exact ⟨this,this,trivial⟩
 ·rw [sB4,ofEvents_none]; simpa using ht
 refine ⟨fun d=>⟨trivial,trivial,trivial⟩,P0 A B 1,an2,fun t fn pos ht=>?_,fun d5=>?_⟩
 ·rw [sB5];exact bR5 (d:=1) (es:=#[mkE (.read ⟨a.m+9,1,none⟩)]) (fun e he=>by
   simp at he;subst he;refine ⟨fun b hb _=>?_,by simp [mkE,MemAct.ofEvent],show a.m+9<B by omega⟩;simp only [mkE,MemAct.ofEvent,MemAct.touch?,sk] at hb;subst hb;simp) t fn pos ht
 refine ⟨fun d=>⟨trivial,trivial,trivial⟩,P0 A B 0,an2,fun t fn pos ht=>?_,fun d6=>hK _ ((h1' d3).at d6)⟩;rw [sB6];exact bR5 (d:=1) (es:=#[mkE .enable]) (fun e he=>by simp at he; subst he; exact bZ1 rfl (by simp) trivial) t fn pos ht
end
end Hid
namespace Hid
open Go Go.Proofs Go.RowKit Go.Conc Ar
variable [Junk]
section
variable {B0:Nat}{Post:Value->World->Prop}{f:FuncId}{Q:Value->World->Prop}
theorem bq2 (a:Ar) (i:Nat) (o:Obj) (h:(osT a)[i]?=some o):(∃ o',(osP a KV)[i]?=some o'/\ObR o' o)/\(∀ x u,o≠.view x u)/\(∀ c u,o≠.pending c u)/\∀ r,o≠.loop r:=by
 have hlt:i<10:=(lT.1 h).1;have hc:i=0\/i=1\/i=2\/i=3\/i=4\/i=5\/i=6\/i=7\/i=8\/i=9:=by omega
 rcases hc with rfl | rfl | rfl | rfl | rfl | rfl | rfl | rfl | rfl | rfl<;>obtain rfl:=sj (h:some _=some o)
 all_goals refine ⟨⟨_,rfl,?_⟩,(fun _ _ e=>by cases e),(fun _ _ e=>by cases e),fun _ e=>by cases e⟩
 all_goals first | exact .inl rfl | exact .inr (.inl ⟨_,_,rfl,rfl⟩)
theorem cf1 (a:Ar) {C L C2 L1:World}(hw:@WR noLoops _ C L) (hc:Gr C (osP a KV) C2) (hl:Gr L (osT a) L1):@WR noLoops _ C2 L1:=by
 have cs:∀ b o,L1.heap[b]?=some o->L.heap[b]?=some o/\b<L.heap.size\/∃ i,b=L.heap.size+i/\(osT a)[i]?=some o:=fun b o h=>by
  by_cases hb:b<L.heap.size
  ·rw [hl.old hb] at h; exact .inl ⟨h,hb⟩
  ·obtain ⟨i,rfl⟩:∃ i,b=L.heap.size+i:=⟨b-L.heap.size,by omega⟩
   rw [hl.get] at h;exact .inr ⟨i,rfl,h⟩
 refine ⟨hc.sys.trans (hw.os.trans hl.sys.symm),hc.out.trans (hw.out.trans hl.out.symm),?_,fun b o h=>?_,fun b x u h=>?_,fun b c u h=>?_,fun b r h=>?_⟩
 ·rw [hc.size,hl.size,hw.size]; rfl
 ·rcases cs b o h with ⟨h1,h2⟩ | ⟨i,rfl,h1⟩
  ·rw [hc.old (by rw [hw.size]; exact h2)];exact hw.blk b o h1
  ·rw [<-hw.size,hc.get];exact (bq2 a i o h1).1
 ·rcases cs b _ h with ⟨h1,h2⟩ | ⟨i,rfl,h1⟩
  ·exact hw.nv _ _ _ h1
  ·exact absurd rfl ((bq2 a i _ h1).2.1 _ _)
 ·rcases cs b _ h with ⟨h1,h2⟩ | ⟨i,rfl,h1⟩
  ·exact hw.np _ _ _ h1
  ·exact (bq2 a i _ h1).2.2.1 _ _ rfl
 ·rcases cs b _ h with ⟨h1,h2⟩ | ⟨i,rfl,h1⟩
  ·exact hw.lp _ _ h1
  ·exact ((bq2 a i _ h1).2.2.2 _ rfl).elim
theorem bx_gr (a:Ar) {C C2:World}(hm:a.m=C.heap.size) (h:Gr C (osP a KV) C2):FB (bxOf a) C2:=by
 intro b o hb;unfold bxOf at hb;rw [hm] at hb;repeat' split at hb
 all_goals first | (cases hb; done) | skip
 all_goals rename_i e; subst e; rw [h.get]; exact hb
theorem cn7 (a:Ar) {L L1:World}(hm:a.m=L.heap.size) (h:Gr L (osT a) L1):∀ b o,bxOf a b=some o->∃ T fz,L1.heap[b]?=some (.cells #[] T fz):=by
 intro b o hb;unfold bxOf at hb;rw [hm] at hb;repeat' split at hb
 all_goals first | (cases hb; done) | skip
 all_goals rename_i e; subst e; rw [h.get]; exact ⟨_,_,rfl⟩
theorem bU0 (a:Ar) (h8:a.n3<=8) (hG:GB twp B0) {x:Frame}{xs:List Frame}{Shun:Loc->Prop}{B:Nat}{gs:Array Goroutine}{C L:World}{sl:Option (Nat×Nat)}{t:Trace}{q:Nat->Nat}(hm:a.m=L.heap.size)
  (hx:@FrOK noLoops twp Tryz.prog x) (hxs:∀ y∈xs,@FrOK noLoops twp Tryz.prog y) (hsit:@Sit noLoops _ Tryz.prog B0 Shun B gs C L t q) (h0:gs[0]?=some (G a.F0 (x::xs))) (ht:Tree twp (AtRet twp f Q) (G a.T0 (x::xs++[dmF twp])) L)
  (hcl:∀ g' L',Later twp (G a.T0 (x::xs++[dmF twp])) L g' L'->@Claim noLoops _ twp Tryz.prog B0 Post g' L'):Wins Tryz.prog Post (crowd gs C sl) t:=by
 have hmC:a.m=C.heap.size:=hm.trans hsit.wr.size.symm;have hS:∀ l,Shun l->∃ ad,l = .cell ad/\ad.block<a.m:=fun l hl=>by
  obtain ⟨ad,T,fz,e,h⟩:=hsit.shun l hl;exact ⟨ad,e,by rw [hm]; exact (lh.1 h).1⟩
 have hN:0<gs.size:=(lh.1 h0).1;have hE:=eok a x xs Shun gs.size (B0:=B0) (by rw [hm]; exact hsit.big) hS hN;have hcs:CsOK x xs:=fun z hz=>by
  rcases xb.1 hz with rfl | hz
  ·exact ⟨hx.defers,hx.mode⟩
  ·exact ⟨(hxs z hz).defers,(hxs z hz).mode⟩
 obtain ⟨hfit,hgr⟩:=br7 (f:=27) (osT a) [] L a.m (Gr.self L) (by rw [hm]; rfl);rw [<-bU9] at hfit hgr;obtain ⟨ht1,hl1⟩:=ad6 46 (s:=(a.T0,csT x xs)) (cj8 a h8 (csT x xs)) hfit ht;generalize hL1:wL a.cc9 L=L1 at *
 have hgL:Gr L (osT a) L1:=hgr;have sz1:L1.heap.size=a.m+10:=by rw [hgL.size,hm]; rfl
 have hWW:TW a x xs Shun gs.size B0 Post R1 0 (G a.child []) L1:=by
  refine WW.facts (E:=env a x xs Shun gs.size) fun hl=>?_
  obtain ⟨_,_,_,_,_,_,b8⟩:=bxV (a:=a) (i:=0);refine WW.run (E:=env a x xs Shun gs.size) hE rp1 13 (s:=(a.child,[])) (cj7 a) (bj5 hl 8 a.chV (by omega) 78 b8) ?_;refine b33 hE hG hcs h8 (f:=f) (Q:=Q) (g0:=G a.T0 (csT x xs)) (L0:=L) (fun x26 x30 x31 x33 x34 x35 L2 ht2 hl2=>?_) a.n3 0 (by omega) _ _ _ _ _ _ L1 ht1 hl1 _ _ _ _ _;have hrB:=bY2 a (csT x xs) (a.n3:Int) x26 x30 x31 x33 x34 x35;rw [lg (Int.lt_irrefl _)] at hrB;obtain ⟨ht3,hl3⟩:=ad6 3 hrB (L:=L2) trivial ht2;obtain ⟨ht4,hl4⟩:=ad6 9 (ci9 a (csT x xs) (a.n3:Int) x26 x31 x33 x34 x35) (L:=L2) trivial ht3;have hout:=ab4 (out_T a x (xs++[dmF twp]) (.int .i64 a.n3) x26 x31 x33 x34 x35) (w:=L2) trivial;refine pxl hE hS hx hxs (hcl _ _ (hl2.trans (hl3.trans (hl4.trans ?_))));exact .step (d:=L2.drawn) hout (.refl _ _)
 refine a00 46 (s:=(a.F0,x::xs)) (cj9 a h8 (x::xs)) (N:=gs.size) (T:=Past Shun (a.m+9)) ad2 rfl h0 hsit.lv (hsit.past.mono (by have:=hsit.low; omega)) fun d=>?_
 refine cd8 (C:=C) hmC (lf _) hS (fun C1 hC1=>?_) _ ((Gr.self C).at d);intro d1 gs1 sl1 t1 q1 hz1 hg1 hlv1 hp1;refine a00 147 (s:=(a.FA,x::xs)) (cj6 a (x::xs)) (N:=gs.size) (T:=P0 (env a x xs Shun gs.size).A (a.m+10) 0) an2 hz1 hg1 hlv1 ?_ fun d2=>?_
 ·exact P0.of (A:=(env a x xs Shun gs.size).A) hp1 (lf _) (uG _)
 refine cd7 (C:=C) hmC rfl (lf _) (fun C2 hC2=>?_) _ ((hC1.at d1).at d2);intro d3 gs2 sl2 t2 q2 hz2 hg2 hlv2 hp2;refine aW9 (T:=P0 (env a x xs Shun gs.size).A (a.m+10) 0) an2 (sumTo gs2.size q2) (lf _) hg2 rfl hlv2 hp2 fun d4 gs3 sl3 t3 q3 hg3 hz3 hlv3 hp3=>?_
 have hN3:gs3.size=gs.size:=hz3.trans hz2;have hspawn:=ah9 (go_P a (x::xs)) (w:=(C2.at d3).at d4) trivial;refine ⟨_,_,runT_crowd_spawn (P:=Tryz.prog) (i:=0) hg3 hspawn,?_⟩;rw [hN3];generalize (G a.FG (x::xs)).frame.fn=f1;generalize (G a.FG (x::xs)).frame.place=p1;generalize hC3:wOf [] ((C2.at d3).at d4)=C3;have hg:Gr C (osP a KV) C3:=by rw [<-hC3]; exact (hC2.at d3).at d4
 have sz3:C3.heap.size=a.m+10:=by rw [hg.size,hmC]; rfl
 have hn:Deaf t3 gs.size=0:=hlv3.above _ (by omega);have hti:=P0.fork hE.ap hp3 hn f1 (G a.child []).frame.fn p1 p1;have hdf:∀ i,Deaf (t3++#[{ g:=0,fn:=f1,pos:=p1,act:= .go gs.size },{ g:=gs.size,fn:=(G a.child []).frame.fn,pos:=p1,act:= .start }]) i=Deaf t3 i:=fun i=>by
  rw [show ∀ u v:MemOp,(#[u,v]:Trace)=[u,v].toArray from fun _ _=>rfl,Deaf_append];rfl
 have hlt:0<gs3.size:=by omega
 refine hWW .opn 0 (G a.FP (x::xs)) ((gs3.setIfInBounds 0 (G a.FP (x::xs))).push (G a.child [])) C3 sl3 _ q3 ?_ trivial;refine ⟨?_,?_,⟨fun i g hi hne hx2=>?_,fun j hj=>?_,?_,hN⟩,?_,fun b hb=>?_,?_,?_,fun l hl=>?_,?_,?_,?_,?_,?_,?_,?_,?_,?_,bR2 a x xs Shun gs.size h8,fun h=>absurd rfl h⟩
 ·rw [Array.getElem?_push_lt (by simpa using hlt)];simp [hlt]
 ·show ((gs3.setIfInBounds 0 (G a.FP (x::xs))).push (G a.child []))[gs.size]?=_;rw [xp,lm (by simp [hN3])]
 ·have hi2:i≠gs.size:=hne;rw [xp] at hx2;split at hx2
  ·rename_i e; simp at e; omega
  ·rw [li (by omega)] at hx2;have:=hlv3.old i g hi hx2
   rw [<-hdf i] at this;exact this
 ·exact (hdf j).trans (hlv3.above j (by simp at hj; omega))
 ·simp [hN3]; exact xB _
 ·exact cf1 a hsit.wr hg hgL
 ·rw [hg.old (by rw [hsit.wr.size]; exact lP hb hsit.big),hgL.old (lP hb hsit.big)];exact hsit.old b hb
 ·rw [hg.tape,hgL.tape]; exact hsit.tape
 ·rw [sz1]; exact lf _
 ·obtain ⟨ad,T,fz,e,h⟩:=hsit.shun l hl;exact ⟨ad,T,fz,e,by rw [hgL.old (lh.1 h).1]; exact h⟩
 ·exact bx_gr a hmC hg
 ·refine ⟨0,0,?_⟩;show C3.heap[a.m+7]?=_;rw [hmC,hg.get];rfl
 ·show L1.heap[a.m+7]?=_;rw [hm,hgL.get];rfl
 ·exact b37 (st:=4294967296) hmC hg
 ·exact cn7 a hm hgL
 ·refine ⟨88,(0,0),?_⟩;show L1.heap[a.m+9]?=_;rw [hm,hgL.get];rfl
 ·rw [sz3];exact hti
 ·exact (hdf 0).trans hp3.deaf
 ·exact (hdf _).trans hn
theorem bc0 (hG:GB twp B0):@cp8 noLoops _ twp Tryz.prog B0 Post (AtRet twp f Q) 27:=by
 intro args x xs Shun B gs C L sl t q hx hxs hsit h0 ht hcl;obtain ⟨l,hl,e1,e2⟩:=cc4 args;rw [e1] at h0;rw [e2] at ht hcl;obtain ⟨w,rest,rfl⟩:=b65 l hl;obtain ⟨b0,n0,c0,i1,i2,b3,n3,c3,i4,v0,v1,v2,v3,v4,v5,h8⟩:=bT7 (v0:=w 0) (v1:=w 1) (v2:=w 2) (v3:=w 3) (v4:=w 4) (v5:=w 5) ht;rw [v0,v1,v2,v3,v4,v5] at h0 ht hcl;exact bU0 ⟨b0,n0,c0,i1,i2,b3,n3,c3,i4,L.heap.size,w,rest⟩ h8 hG rfl hx hxs hsit h0 ht hcl
end
end Hid
namespace Hid
open Go Go.Proofs Go.RowKit Go.Conc Ar
def aQ8 (b:Nat) (o:Obj):Obj:=match o with
 | .view _ _ | .pending _ _ | .loop _=> .view ⟨b,0,none⟩ 0
 | o=>o
def clean (W:World):World:={ W with heap:=W.heap.mapIdx aQ8 }
theorem av2 (W:World) (b:Nat):(clean W).heap[b]?=(W.heap[b]?).map (aQ8 b):=by simp [clean]
theorem bz3 (W:World) (a:Addr):(clean W).cell? a=W.cell? a:=by
 unfold World.cell?;rw [av2];cases W.heap[a.block]? with
 | none=>rfl
 | some o=>cases o<;>rfl
theorem bM4 (W:World) (b:Nat) (es:Array MapEntry) (c:Nat):(clean W).heap[b]?=some (.map es c)<->W.heap[b]?=some (.map es c):=by
 rw [av2];cases W.heap[b]? with
 | none=>simp
 | some o=>cases o<;>simp [aQ8]
theorem ca6 (o:Obj):Jk o\/∀ b,aQ8 b o=o:=by
 cases o<;>first | exact .inl (.view _ _) | exact .inl (.pending _ _) | exact .inl (.loop _) | exact .inr fun _=>rfl
theorem a15 {o:Obj}(h:Jk o) (b:Nat):aQ8 b o = .view ⟨b,0,none⟩ 0:=by cases h<;>rfl
theorem bu2 {H:Type}{enc:TypeId×Value->H}{P:Program}{V W:World}{base:Nat}{sp:Nat->Bool}{held:Bool}(hc:∀ a,V.cell? a=W.cell? a) (hm:∀ (b:Nat) es c,V.heap[b]?=some (.map es c)<->W.heap[b]?=some (.map es c)):∀ fuel,DataW.trod enc P V base sp held fuel=DataW.trod enc P W base sp held fuel:=by
 have hcs:∀ b a n,V.cells? b a n=W.cells? b a n:=fun b a n=>by
  unfold World.cells?;simp only [hc]
 intro fuel;induction fuel with
 | zero=>rfl
 | succ fuel ih=>
  funext t cs;unfold DataW.trod;simp only [ih,hcs];split<;>try rfl
  rename_i k e b _;have key:(∃ es c,V.heap[b]?=some (.map es c))\/((∀ es c,V.heap[b]?≠some (.map es c))/\∀ es c,W.heap[b]?≠some (.map es c)):=by
   by_cases h:∃ es c,V.heap[b]?=some (.map es c)
   ·exact .inl h
   ·exact .inr ⟨fun es c hh=>h ⟨es,c,hh⟩,fun es c hh=>h ⟨es,c,(hm b es c).2 hh⟩⟩
  rcases key with ⟨es,c,h⟩ | ⟨h1,h2⟩
  ·rw [h,(hm b es c).1 h]
  ·split
   ·rename_i es c h; exact absurd h (h1 es c)
   ·first
     | rfl
     | (split
        ·rename_i es c h; exact absurd h (h2 es c)
        ·rfl)
theorem leavers_one (P:Program) (g:Goroutine):Leavers P #[] #[g] (fun _=>0):=by
 refine ⟨fun i x hi hx=>?_,fun j _=>rfl⟩;have:i<1:=(lh.1 hx).1
 omega
theorem past_nil (S:Loc->Prop):Past S 0 #[]:=by
 refine ⟨fun said hr=>?_,fun i a h=>?_,fun i g h=>?_,rfl,fun op hop=>by simp at hop⟩
 ·obtain ⟨i,j,_,⟨a,b,ha,_⟩,_⟩:=hr;simp [Trace.act?] at ha
 ·obtain ⟨x,hx,_⟩:=touch_of h;simp at hx
 ·simp [Trace.g?] at h
theorem bG5:Pair twp twp:=by
 have h:Pair twp { twp with funcs:=twp.funcs }:=by
  refine bG6 (full:=true) (J:=fun _=>true) (fun _=>trivial) (fun _ _=>trivial) (fun _ _=>trivial) (fun _ _=> .inl rfl) (fun _ h=>h) rfl fun f fn hf=>?_
  obtain ⟨b,Fn,hb,_,_⟩:=az2.twin.fn f fn hf;refine ⟨b,fn,hb,fun _=>?_,az2.ng f fn hf,hf,rfl⟩;rw [bB2] at hf;obtain ⟨g,hg,rfl⟩:=xk.1 hf;have hlt:=Nat.lt_of_lt_of_eq (lh.1 hg).1 bI6;have hk:=xa.1 bZ5 f (lH.2 hlt);unfold okAt at hk;rw [hg] at hk;simp only [hb,lu] at hk;exact hk.1.1
 exact h
theorem bT4 {f:FuncId}{fn:Func}{args:Array Value}{W:World}{Post:Value->World->Prop}(hfn:twp.funcs[f]?=some fn) (hP:Tryz.prog.funcs[f]?=some fn) (hin:Tryz.prog.inits.idxOf? f=none)
  (hres:∀ tmps,∃ v,∀ (q:Program) (w:World) (es:Array Event),(results fn tmps).runT q w es=(.ok v w,es)) (hgl:∀ b,b<Tryz.prog.globals.size->∃ c T fz,W.heap[b]?=some (.cells c T fz))
  (hC:∀ T,Calls twp f args { clean W with tape:=T } fun e w'=>e = .returned (.bool true)/\Below W.heap.size { clean W with tape:=T } w')
  (hPost:∀ C:World,C.os=W.os->C.output=W.output->W.heap.size<=C.heap.size->(∀ b:Nat,b<W.heap.size->C.heap[b]?=W.heap[b]?)->Post (.bool true) C):Wins Tryz.prog Post (solo (G (Frame.enter Tryz.prog f args .normal) []) W) #[]:=by
 letI:Junk:=⟨fun b=>W.heap[b]?,Tryz.prog.globals.size⟩
 have hsz:(clean W).heap.size=W.heap.size:=by simp [clean]
 have hview:∀ b a u,(clean W).heap[b]?=some (.view a u)->a.block=b/\Tryz.prog.globals.size<=b:=fun b a u h=>by
  rw [av2] at h;cases ho:W.heap[b]? with
  | none=>rw [ho] at h; cases h
  | some o=>
   rw [ho] at h;rcases ca6 o with hj | hj
   ·rw [lB,a15 hj] at h;cases h;refine ⟨rfl,Nat.le_of_not_lt fun hlt=>?_⟩;obtain ⟨c,T,fz,hc⟩:=hgl b hlt;rw [hc] at ho;cases ho;cases hj
   ·rw [lB,hj b] at h;cases h;have:=hj 0
    simp only [aQ8] at this;refine ⟨?_,Nat.le_of_not_lt fun hlt=>?_⟩
    ·have:=hj b
     simp only [aQ8,Obj.view.injEq] at this;rw [<-this.1]
    ·obtain ⟨c,T,fz,hc⟩:=hgl b hlt;rw [hc] at ho;cases ho
 have hnj:∀ (b:Nat) (o:Obj),(clean W).heap[b]?=some o->(∀ c u,o≠.pending c u)/\∀ r,o≠.loop r:=fun b o h=>by
  rw [av2] at h;cases ho:W.heap[b]? with
  | none=>rw [ho] at h; cases h
  | some o2=>
   rw [ho,lB] at h;cases h;cases o2<;>exact ⟨fun _ _ e=>(by cases e),fun _ e=>(by cases e)⟩
 have hWL:@WR noLoops _ W (clean W):=by
  refine ⟨rfl,rfl,hsz.symm,fun b o h=>?_,hview,fun b c u h=>(hnj b _ h).1 _ _ rfl,fun b r h=>((hnj b _ h).2 _ rfl).elim⟩;rw [av2] at h;cases ho:W.heap[b]? with
  | none=>rw [ho] at h; cases h
  | some o2=>
   rw [ho,lB] at h;cases h;refine ⟨o2,rfl,?_⟩;rcases ca6 o2 with hj | hj
   ·rw [a15 hj]; exact .inr (.inr (.inr ⟨⟨_,_,rfl⟩,hj⟩))
   ·rw [hj]; exact .inl rfl
 have hold:∀ b:Nat,b<W.heap.size->W.heap[b]?=U b (clean W).heap[b]?:=fun b _=>by
  rw [av2];cases ho:W.heap[b]? with
  | none=>rfl
  | some o2=>
   rcases ca6 o2 with hj | hj
   ·rw [lB,a15 hj]; exact ho.symm
   ·rw [lB,hj];cases o2<;>first | rfl | exact ho.symm
 have hGW:twp.globals.size<=W.heap.size:=by
  refine Nat.le_of_not_lt fun hlt=>?_
  obtain ⟨c,T,fz,hc⟩:=hgl W.heap.size hlt;simp at hc
 have hGB:GB twp W.heap.size:=⟨hGW,lf _⟩
 have hrun:∀ tmps,∃ v,∀ w,(results fn tmps).run twp w = .ok v w:=fun tmps=>by
  obtain ⟨v,hv⟩:=hres tmps;exact ⟨v,fun w=>by rw [<-Sem.runT_fst twp _ w #[],hv]⟩
 have ht:=aY2 (Q:=fun v w'=>v = .bool true/\w'.os=W.os/\w'.output=W.output/\W.heap.size<=w'.heap.size/\∀ b:Nat,b<W.heap.size->w'.heap[b]?=(clean W).heap[b]?) bG5 (f:=f) (args:=args) (w:=clean W) trivial hWL.self (fun T=>(hC T).mono fun e w' h=>⟨_,h.1,rfl,h.2.os,h.2.output,by have:=h.2.size; exact hsz▸this,h.2.block⟩)
  (fun v w1 w2 h1 h2 h3 hq=>⟨hq.1,h2▸hq.2.1,h3▸hq.2.2.1,h1▸hq.2.2.2.1,h1▸hq.2.2.2.2⟩) hfn hrun
 have henter:Frame.enter twp f args .normal=Frame.enter Tryz.prog f args .normal:=by
  unfold Frame.enter;rw [hfn,hP]
 have hcl:=bz9 (B0:=W.heap.size) (Post:=Post) az2 hGB (bc0 hGB) as4 hin hfn hres (fun v C L hw ho hq=>?_) ht _ _ (.refl _ _)
 ·rw [<-henter];exact hcl (Frame.enter twp f args .normal) [] rfl (aK6 az2 trivial hfn args) (by simp) (fun _=>False) 0 #[G (Frame.enter twp f args .normal) []] W none #[] (fun _=>0) ⟨leavers_one _ _,past_nil _,hWL,lC _,fun l h=>h.elim,rfl,hold,by rw [hsz]; exact lf _⟩ rfl
 ·obtain ⟨rfl,q1,q2,q3,q4⟩:=hq;refine hPost C (hw.os.trans q1) (hw.out.trans q2) (by rw [hw.size]; exact q3) fun b hb=>?_
  rw [ho b hb,q4 b hb];exact (hold b hb).symm
end Hid
namespace Hid
open Go Go.Proofs Go.RowKit Go.Conc Ar
noncomputable def rowsB (P:Program):Bool:=(List.range P.globals.size).all fun g=>(((begin P (fun _ _=>0) default).world.heap[g]?).bind Obj.row?).isSome
theorem b72:rowsB Tryz.prog=true:=by kernel_rfl
theorem b73 {w:World}(h:w.ShapedOpen Tryz.prog):∀ b,b<Tryz.prog.globals.size->∃ c T fz,w.heap[b]?=some (.cells c T fz):=fun b hb=>by
 have h1:=xa.1 b72 b (lH.2 hb);obtain ⟨⟨zero,t⟩,h2⟩:=Option.isSome_iff_exists.1 h1;obtain ⟨cs,h3,_⟩:=h.1 b zero t hb h2;exact ⟨cs,t,_,h3⟩
theorem aO5 {H:Type}{enc:TypeId×Value->H}{os:Os}{f:FuncId}{fn:Func}{s:ChangeSpec}{conds:List PathCond}{apart fresh handsOn again:Bool}
  (own:ownKnob Tryz.prog.godebug=none) (started:os.Started) (hT:twp.funcs[f]?=some fn) (hfn:Tryz.prog.funcs[f]?=some fn) (hin:Tryz.prog.inits.idxOf? f=none) (hres:∀ tmps,∃ v,∀ (q:Program) (w:World) (es:Array Event),(results fn tmps).runT q w es=(.ok v w,es))
  (witness:∃ (w:World) (tape:Tape) (i:Input),w.os=os/\(w.forCall tape i).Shaped Tryz.prog/\i.vars=[]/\Input.okWide Tryz.prog (w.forCall tape i) .any w.heap.size f i/\
   s.pre6 enc Tryz.prog fn conds apart (w.forCall tape i).memory i.args/\({}:Assume).holds Tryz.prog (lone (Frame.enter Tryz.prog f i.args .normal) [] (w.forCall tape i)))
  (contract:∀ (W:World) (base:Nat) (args:Array Value) (ds gs:List (DataW H)) (before:List MemPlace),
   (∀ (j:Nat) t v,fn.params[j]?=some t->args[j]?=some v->Value.okWide Tryz.prog W .any base t v)->DataW.Whole enc Tryz.prog fn.params.toList s.vars apart W args.toList ds gs before->
   conds.all (PathCond.test Tryz.prog ⟨fn.params.toList,ds,s.plain.varTypes Tryz.prog,gs⟩)=true->
   (DataW.weightsEach Tryz.prog (fn.params.toList++s.plain.varTypes Tryz.prog) (ds++gs)).all (·<=reachBytes)=true->
   (∀ T,Calls twp f args { clean W with tape:=T } fun e w'=>e = .returned (.bool true)/\Below W.heap.size { clean W with tape:=T } w')/\
   ∀ C:World,Below W.heap.size W C->s.post enc Tryz.prog fn apart fresh handsOn again W args (.bool true) C) :
  ReturnsInLeavingWide {} Tryz.checked os f .any (s.pre6 enc Tryz.prog fn conds apart) (s.post enc Tryz.prog fn apart fresh handsOn again):=by
 refine returnsInLeavingWide_of_good own started witness ?_;intro w tape i _ hsh _ hok hpre _;obtain ⟨_,_,_,fn',hfn',_,_,_,_,hval⟩:=hok;have e:fn'=fn:=sj (hfn'.symm.trans hfn);subst e;obtain ⟨⟨ds,gs,before,hw,hc⟩,hz⟩:=hpre;have hw':=DataW.Whole.of_heap (w':=w.forCall tape i) (by rfl) hw;have hwb:=DataW.Whole.of_heap (w':=(w.forCall tape i).blind) (by rfl) hw;obtain ⟨hC,_⟩:=contract (w.forCall tape i) w.heap.size i.args ds gs before hval hw' hc (hz.weights hw);refine bT4 hT hfn hin hres (b73 hsh) hC fun C h1 h2 h3 h4=>?_
 have hvb:∀ (j:Nat) t v,fn'.params[j]?=some t->i.args[j]?=some v->Value.okWide Tryz.prog (w.forCall tape i).blind .any w.heap.size t v:=hval;obtain ⟨_,hp⟩:=contract (w.forCall tape i).blind w.heap.size i.args ds gs before hvb hwb hc (hz.weights hw);exact hp C.blind ⟨h1,rfl,h2,h3,h4⟩
end Hid
end Go.Proofs.YtbkgncikjhibiaaGreat
