/- Part 11 of the texts that the law's proof leans on. -/
import Derived.Test.YthappngbapbkfaaGreatM10
import Derived.Shelf.SlSortCmp.InsertionK
import Derived.Shelf.SlSortCmp.NoneTotal
import Derived.Ground.SlsfProg
import Derived.Test.YthappngbapbkfaaGreatProg
set_option linter.unusedSimpArgs false
set_option linter.unusedVariables false
namespace Go.Proofs.YthappngbapbkfaaGreat.Sx
open Go.RowKit
theorem R_sl {α:Type}{c:α->List Value}{sz:Nat}{w:World}{X:Nat->Prop}{v:Value}{xs:List α}{g:Nat->Nat->SV}(hsz:0<sz) (h:Sl c sz w v xs) (hX:∀ b,¬ X b)
  (hR:∀ i j (hi:i<xs.length),j<sz->∃ u,(c xs[i])[j]?=some u/\ab3 u/\R w X E0 (g i j) u):R w X E0 (.sl xs.length sz g) v:=by
 obtain ⟨p,cap,rfl,h1,h2,h3⟩:=h
 by_cases h0:xs=[]
 ·subst h0; exact .sl0
 rcases h3 with h3 | ⟨b,off,rfl,am9⟩
 ·exact absurd h3 h0
 have hpos:0<xs.length:=List.length_pos_iff.2 h0
 obtain ⟨u0,hu0,_⟩:=hR 0 0 hpos hsz
 have hcell0:=(am9 0 0 hpos hsz).trans hu0
 cases hb:w.heap[b]? with
 | none=>simp [World.cell?,hb] at hcell0
 | some o=>
  cases o<;>simp only [World.cell?,hb,reduceCtorEq] at hcell0<;>try (simp at hcell0; done)
  rename_i cc T fr
  have hget:∀ i j (hi:i<xs.length),j<sz->off+i*sz+j<cc.size/\∃ u,cc.getD (off+i*sz+j) undef=u/\ab3 u/\R w X E0 (g i j) u:=by
   intro i j hi hj
   obtain ⟨u,hu1,hu2,hu3⟩:=hR i j hi hj
   have h4:=(am9 i j hi hj).trans hu1
   simp only [World.cell?,hb,Option.isSome_none,Bool.false_eq_true,if_false] at h4
   have hlt:off+i*sz+j<cc.size:=by
    refine Classical.byContradiction fun hc=>?_
    rw [Array.getElem?_eq_none (Nat.not_lt.1 hc)] at h4
    cases h4
   refine ⟨hlt,u,?_,hu2,hu3⟩
   rw [Array.getD_eq_getD_getElem?,h4]
   rfl
  have hlast:=(hget (xs.length-1) (sz-1) (by omega) (by omega)).1
  have e1:(xs.length-1)*sz+sz=xs.length*sz:=by
   obtain ⟨m,hm⟩:∃ m,xs.length=m+1:=⟨xs.length-1,by omega⟩
   rw [hm,Nat.add_sub_cancel,Nat.succ_mul]
  refine .sl hb (hX b) (by omega) h1 (fun i j hi hj=>?_) fun i j hi hj=>?_
  ·obtain ⟨_,u,hu,hu2,_⟩:=hget i j hi hj
   rw [hu]; exact hu2
  ·obtain ⟨_,u,hu,_,hu3⟩:=hget i j hi hj
   rw [hu]; exact hu3
theorem aM9 {P:Program}{w:World}{t:TypeId}{k:IntKind}(ht:P.underlying t=some (.int k)):∀ (n:Nat) (cs:List Value),All2 (Leaf P w) (List.replicate n t) cs->
  (cs.map fun v=>intOf (ofV v)).map (Value.int k)=cs/\(cs.map fun v=>intOf (ofV v)).length=n/\∀ x∈cs.map fun v=>intOf (ofV v),(Lit.int k x).wf=true
 | 0,cs,h=>by
  obtain rfl:=All2.aR1 h
  exact ⟨rfl,rfl,fun x hx=>absurd hx (by simp)⟩
 | n+1,cs,h=>by
  obtain ⟨y,m,rfl,e1,l1⟩:=All2.cons_inv h
  obtain ⟨z,rfl,hw⟩:=ah5 ht e1
  obtain ⟨h1,h2,h3⟩:=aM9 ht n m l1
  refine ⟨?_,by simp only [List.map_cons,List.length_cons]; rw [h2],fun x hx=>?_⟩
  ·simp only [List.map_cons]
   rw [h1]
   rfl
  ·simp only [List.map_cons,List.mem_cons] at hx
   rcases hx with rfl | hx
   ·exact hw
   ·exact h3 x hx
theorem ax3 {P:Program}{w:World}{T e t:TypeId}{v:Value}{k:IntKind}(n:Nat) (hu:P.underlying T=some (.slice e)) (ht:P.underlying t=some (.int k)) (hk:P.cellsOf e=n) (hn:0<n)
  (hl:leaves P 20 e=some (List.replicate n t)) (h:Leaf P w T v) :
  ∃ (len:Nat) (f:Nat->Nat->Int),(∀ g:Nat->Nat->SV,(∀ i j,j<n->g i j = .int k (f i j))->R w (fun _=>False) E0 (.sl len n g) v)/\(∀ i j,i<len->j<n->(Lit.int k (f i j)).wf=true)/\len<=maxLen:=by
 obtain ⟨xs,h3,h4,h5⟩:=at5 (c:=fun l:List Int=>l.map (Value.int k)) (mk:=fun cs=>cs.map fun v=>intOf (ofV v)) (ok:=fun l=>l.length=n/\∀ x∈l,(Lit.int k x).wf=true) hu hk hn hl (fun cs hcs=>aM9 ht n cs hcs) h
 have hx:∀ i (hi:i<xs.length) j,j<n->∃ hj:j<(xs[i]).length,(xs.getD i []).getD j 0=(xs[i])[j]:=fun i hi j hj=>by
  have hl:=(h4 xs[i] (List.getElem_mem hi)).1
  refine ⟨by omega,?_⟩
  have e1:xs.getD i []=xs[i]:=by rw [List.getD_eq_getElem?_getD,List.getElem?_eq_getElem hi]; rfl
  rw [e1,List.getD_eq_getElem?_getD,List.getElem?_eq_getElem (by omega)]
  rfl
 refine ⟨xs.length,fun i j=>(xs.getD i []).getD j 0,fun g hg=>R_sl hn h3 (fun _=>id) fun i j hi hj=>?_,fun i j hi hj=>?_,h5⟩
 ·obtain ⟨hj',he⟩:=hx i hi j hj
  refine ⟨.int k (xs[i])[j],by simp [hj'],rfl,?_⟩
  rw [hg i j hj]
  show R w _ E0 (.int k ((xs.getD i []).getD j 0)) _
  rw [he]
  exact .int
 ·obtain ⟨hj',he⟩:=hx i hi j hj
  show (Lit.int k ((xs.getD i []).getD j 0)).wf=true
  rw [he]
  exact (h4 xs[i] (List.getElem_mem hi)).2 _ (List.getElem_mem hj')
end Go.Proofs.YthappngbapbkfaaGreat.Sx
set_option linter.unusedSimpArgs false
set_option linter.unusedVariables false
namespace Go.Proofs.YthappngbapbkfaaGreat.Lli
open Go.RowKit Sx Num Aff Afi Img Imh Imp Imq Rga Blend Ble Lsg Lta Lrd Lri Luc Lck Lgr Lcs Lst Lch Lcl Lgp Lsc Cmp Lpm Lto
theorem aE4 {P:Program}{w:World}:∀ {ls:List TypeId}{cs:List Value},All2 (Leaf P w) ls cs->∀ (j:Nat) (t:TypeId),ls[j]?=some t->∃ v,cs[j]?=some v/\Leaf P w t v
 | [],cs,h,j,t,hj=>by simp at hj
 | a::ls,cs,h,j,t,hj=>by
  obtain ⟨y,m,rfl,e1,l1⟩:=All2.cons_inv h
  cases j with
  | zero=>simp at hj; subst hj; exact ⟨y,rfl,e1⟩
  | succ j=>exact aE4 l1 j t (by simpa using hj)
def iV (v:Value):Int:=Sx.intOf (ofV v)
def bV (v:Value):Bool:=az4 (ofV v)
theorem R_int {w X E k} {t:TypeId}{v:Value}(ht:Tryz.prog.underlying t=some (.int k)) (h:Leaf Tryz.prog w t v):R w X E (.int k (iV v)) v/\ab3 v/\(Lit.int k (iV v)).wf=true:=by
 obtain ⟨n,rfl,hn⟩:=ah5 ht h
 exact ⟨.int,rfl,hn⟩
theorem R_bool {w X E} {t:TypeId}{v:Value}(ht:Tryz.prog.underlying t=some .bool) (h:Leaf Tryz.prog w t v):R w X E (.bool (bV v)) v/\ab3 v:=by
 obtain ⟨b,rfl⟩:=leaf_bool ht h
 exact ⟨.bool,rfl⟩
theorem ao4 {w} {t e:TypeId}{v:Value}(ht:Tryz.prog.underlying t=some (.slice e)) (h:Leaf Tryz.prog w t v):ab3 v:=by
 rcases aN0 ht h with rfl | ⟨a,len,cap,rfl,_⟩<;>exact rfl
abbrev tI:TypeId:=3
abbrev tU:TypeId:=5
abbrev tB:TypeId:=4
abbrev tRS:TypeId:=26
abbrev tSS:TypeId:=40
abbrev tPS:TypeId:=41
abbrev tUS:TypeId:=42
theorem uI:Tryz.prog.underlying tI=some (.int .i64):=by kernel_rfl
theorem uU:Tryz.prog.underlying tU=some (.int .u8):=by kernel_rfl
theorem uB:Tryz.prog.underlying tB=some .bool:=by kernel_rfl
theorem u8_of {n:Int}(h:(Lit.int .u8 n).wf=true):0<=n/\n<=255:=wf_u8 h
instance:Inhabited Rn:=⟨⟨0,0,0⟩⟩
instance:Inhabited Ink:=⟨z8⟩
instance:Inhabited Stp:=⟨⟨0,z8⟩⟩
theorem ch {β:Type} [Inhabited β] {p:Value->Prop}{q:Value->β->Prop}(h:∀ v,p v->∃ r,q v r):∃ F:Value->β,∀ v,p v->q v (F v):=by
 have:∀ v:Value,∃ r:β,p v->q v r:=fun v=>by
  by_cases hv:p v
  ·obtain ⟨r,hr⟩:=h v hv
   exact ⟨r,fun _=>hr⟩
  ·exact ⟨default,fun hc=>absurd hc hv⟩
 exact Classical.axiomOfChoice this
theorem runs_of {w:World}(v:Value) (h:Leaf Tryz.prog w tRS v):∃ r:Nat×(Nat->Rn),R w (fun _=>False) E0 (.sl r.1 3 (fun i=>lst (rnL (r.2 i)))) v/\r.1<=maxLen:=by
 obtain ⟨len,f,hR,_,hlen⟩:=ax3 (k:= .i64) (t:=tI) (e:=70) 3 (by kernel_rfl) uI (by kernel_rfl) (by decide) (by kernel_rfl) h
 exact ⟨(len,fun i=>⟨f i 0,f i 1,f i 2⟩),hR _ (fun i j hj=>match j,hj with | 0,_=>rfl | 1,_=>rfl | 2,_=>rfl),hlen⟩
theorem pix_of {w:World}(v:Value) (h:Leaf Tryz.prog w tPS v):∃ r:Nat×(Nat->Ink),R w (fun _=>False) E0 (.sl r.1 8 (fun i=>lst (inkL (r.2 i)))) v/\r.1<=maxLen/\∀ i,i<r.1->an8 (r.2 i):=by
 obtain ⟨len,f,hR,hw,hlen⟩:=ax3 (k:= .u8) (t:=tU) (e:=28) 8 (by kernel_rfl) uU (by kernel_rfl) (by decide) (by kernel_rfl) h
 refine ⟨(len,fun i=>⟨f i 0,f i 1,f i 2,f i 3,f i 4,f i 5,f i 6,f i 7⟩),hR _ (fun i j hj=>match j,hj with | 0,_=>rfl | 1,_=>rfl | 2,_=>rfl | 3,_=>rfl | 4,_=>rfl | 5,_=>rfl | 6,_=>rfl | 7,_=>rfl),hlen,fun i hi=>?_⟩
 have g:=fun j hj=>u8_of (hw i j hi hj)
 exact ⟨⟨g 0 (by decide),g 1 (by decide),g 2 (by decide),g 3 (by decide)⟩,g 4 (by decide),g 5 (by decide),g 6 (by decide),g 7 (by decide)⟩
theorem soft_of {w:World}(v:Value) (h:Leaf Tryz.prog w tUS v):∃ r:Nat×(Nat->Int),R w (fun _=>False) E0 (.sl r.1 1 (fun i _=> .int .u8 (r.2 i))) v/\r.1<=maxLen/\∀ i,i<r.1->0<=r.2 i/\r.2 i<=255:=by
 obtain ⟨len,f,hR,hw,hlen⟩:=ax3 (k:= .u8) (t:=tU) (e:=tU) 1 (by kernel_rfl) uU (by kernel_rfl) (by decide) (by kernel_rfl) h
 exact ⟨(len,fun i=>f i 0),hR _ (fun i j hj=>match j,hj with | 0,_=>rfl),hlen,fun i hi=>u8_of (hw i 0 hi (by decide))⟩
theorem stops_of {w:World}(v:Value) (h:Leaf Tryz.prog w tSS v):∃ r:Nat×(Nat->Stp),R w (fun _=>False) E0 (.sl r.1 9 (fun i=>lst (stpL (r.2 i)))) v/\r.1<=maxLen/\∀ i,i<r.1->u8i (r.2 i).ink:=by
 obtain ⟨xs,h3,h4,h5⟩:=at5 (n:=20) (e:=119) (ls:=[tI,tU,tU,tU,tU,tU,tU,tU,tU]) (α:=List Value) (c:=id) (mk:=id) (ok:=fun cs=>All2 (Leaf Tryz.prog w) [tI,tU,tU,tU,tU,tU,tU,tU,tU] cs)
  (by kernel_rfl) (show Tryz.prog.cellsOf 119=9 by kernel_rfl) (by decide) (by kernel_rfl) (fun cs hcs=>⟨rfl,hcs⟩) h
 have hx:∀ i (hi:i<xs.length),xs.getD i []=xs[i]:=fun i hi=>by rw [List.getD_eq_getElem?_getD,List.getElem?_eq_getElem hi]; rfl
 refine ⟨(xs.length,fun i=>⟨iV ((xs.getD i []).getD 0 undef),⟨iV ((xs.getD i []).getD 1 undef),iV ((xs.getD i []).getD 2 undef),iV ((xs.getD i []).getD 3 undef),iV ((xs.getD i []).getD 4 undef),iV ((xs.getD i []).getD 5 undef),iV ((xs.getD i []).getD 6 undef),iV ((xs.getD i []).getD 7 undef),iV ((xs.getD i []).getD 8 undef)⟩⟩),R_sl (by decide) h3 (fun _=>id) fun i j hi hj=>?_,h5,fun i hi=>?_⟩
 ·have ha:=h4 xs[i] (List.getElem_mem hi)
  have go:∀ {k:IntKind}{t:TypeId}(j:Nat),Tryz.prog.underlying t=some (.int k)->[tI,tU,tU,tU,tU,tU,tU,tU,tU][j]?=some t->∃ u,(id xs[i])[j]?=some u/\ab3 u/\R w (fun _=>False) E0 (.int k (iV ((xs.getD i []).getD j undef))) u:=fun {k t} j ht hjt=>by
   obtain ⟨u,hu,hl⟩:=aE4 ha j t hjt
   obtain ⟨r1,r2,_⟩:=R_int (w:=w) (X:=fun _=>False) (E:=E0) ht hl
   have e:(xs.getD i []).getD j undef=u:=by rw [hx i hi,List.getD_eq_getElem?_getD,hu]; rfl
   exact ⟨u,hu,r2,e▸r1⟩
  match j,hj with
  | 0,_=>exact go 0 uI rfl
  | 1,_=>exact go 1 uU rfl
  | 2,_=>exact go 2 uU rfl
  | 3,_=>exact go 3 uU rfl
  | 4,_=>exact go 4 uU rfl
  | 5,_=>exact go 5 uU rfl
  | 6,_=>exact go 6 uU rfl
  | 7,_=>exact go 7 uU rfl
  | 8,_=>exact go 8 uU rfl
 ·have hi:i<xs.length:=hi
  have ha:=h4 xs[i] (List.getElem_mem hi)
  have go:∀ (j:Nat),[tI,tU,tU,tU,tU,tU,tU,tU,tU][j]?=some tU->0<=iV ((xs.getD i []).getD j undef)/\iV ((xs.getD i []).getD j undef)<=255:=fun j hjt=>by
   obtain ⟨u,hu,hl⟩:=aE4 ha j tU hjt
   obtain ⟨_,_,r3⟩:=R_int (w:=w) (X:=fun _=>False) (E:=E0) uU hl
   have e:(xs.getD i []).getD j undef=u:=by rw [hx i hi,List.getD_eq_getElem?_getD,hu]; rfl
   rw [e]
   exact u8_of r3
  exact ⟨⟨go 1 rfl,go 2 rfl,go 3 rfl,go 4 rfl⟩,go 5 rfl,go 6 rfl,go 7 rfl,go 8 rfl⟩
abbrev itT:List TypeId:=[tI,tRS,tI,tU,tU,tU,tU,tU,tU,tU,tU,tI,tI,tI,tI,tI,tSS,tI,tI,tPS,tUS,tI,tI,tI,tI,tI,tI,tB,tB,tU,tI,tB,tB,tB]
structure It8 (x:It):Prop where
 alpha:0<=x.alpha/\x.alpha<=255
 ink:u8i x.src.ink
 st:∀ j,j<x.src.ns->u8i (x.src.st j).ink
 px:∀ j,j<x.src.img.n->an8 (x.src.img.px j)
 sf:∀ j,j<x.src.img.sn->0<=x.src.img.sf j/\x.src.img.sf j<=255
 nr:x.nr<=9223372036854775807
def mkIt (FR:Value->Nat×(Nat->Rn)) (FS:Value->Nat×(Nat->Stp)) (FP:Value->Nat×(Nat->Ink)) (FU:Value->Nat×(Nat->Int)) (c:Nat->Value):It:=
 ⟨iV (c 0),(FR (c 1)).1,(FR (c 1)).2,⟨iV (c 2),⟨iV (c 3),iV (c 4),iV (c 5),iV (c 6),iV (c 7),iV (c 8),iV (c 9),iV (c 10)⟩,iV (c 11),iV (c 12),iV (c 13),iV (c 14),iV (c 15),(FS (c 16)).1,(FS (c 16)).2,
  ⟨iV (c 17),iV (c 18),(FP (c 19)).1,(FP (c 19)).2,(FU (c 20)).1,(FU (c 20)).2,⟨iV (c 21),iV (c 22),iV (c 23),iV (c 24),iV (c 25),iV (c 26)⟩,bV (c 27),bV (c 28)⟩⟩,iV (c 29),iV (c 30),bV (c 31),bV (c 32),bV (c 33)⟩
theorem leaf_items {w:World}{v:Value}(h:Leaf Tryz.prog w 23 v) :
  ∃ (n:Nat) (it:Nat->It),R w (fun _=>False) E0 (.sl n 34 (fun i=>lst (itL (it i)))) v/\n<=maxLen/\∀ i,i<n->It8 (it i):=by
 obtain ⟨xs,h3,h4,h5⟩:=at5 (n:=20) (e:=50) (ls:=itT) (α:=List Value) (c:=id) (mk:=id) (ok:=fun cs=>All2 (Leaf Tryz.prog w) itT cs)
  (by kernel_rfl) (show Tryz.prog.cellsOf 50=34 by kernel_rfl) (by decide) (by kernel_rfl) (fun cs hcs=>⟨rfl,hcs⟩) h
 obtain ⟨FR,hR⟩:=ch (runs_of (w:=w))
 obtain ⟨FS,hS⟩:=ch (β:=Nat×(Nat->Stp)) (stops_of (w:=w))
 obtain ⟨FP,hP⟩:=ch (β:=Nat×(Nat->Ink)) (pix_of (w:=w))
 obtain ⟨FU,hU⟩:=ch (soft_of (w:=w))
 have hx:∀ i (hi:i<xs.length),xs.getD i []=xs[i]:=fun i hi=>by rw [List.getD_eq_getElem?_getD,List.getElem?_eq_getElem hi]; rfl
 have get:∀ i (hi:i<xs.length) (j:Nat) (t:TypeId),itT[j]?=some t->∃ u,(id xs[i])[j]?=some u/\Leaf Tryz.prog w t u/\(xs.getD i []).getD j undef=u:=fun i hi j t ht=>by
  obtain ⟨u,hu,hl⟩:=aE4 (h4 xs[i] (List.getElem_mem hi)) j t ht
  exact ⟨u,hu,hl,by rw [hx i hi,List.getD_eq_getElem?_getD,hu]; rfl⟩
 refine ⟨xs.length,fun i=>mkIt FR FS FP FU (fun j=>(xs.getD i []).getD j undef),R_sl (by decide) h3 (fun _=>id) fun i j hi hj=>?_,h5,fun i hi=>?_⟩
 ·have gi:∀ {k:IntKind}{t:TypeId}(j:Nat),Tryz.prog.underlying t=some (.int k)->itT[j]?=some t->∃ u,(id xs[i])[j]?=some u/\ab3 u/\R w (fun _=>False) E0 (.int k (iV ((xs.getD i []).getD j undef))) u:=fun {k t} j ht hjt=>by
   obtain ⟨u,hu,hl,e⟩:=get i hi j t hjt
   obtain ⟨r1,r2,_⟩:=R_int (w:=w) (X:=fun _=>False) (E:=E0) ht hl
   exact ⟨u,hu,r2,e▸r1⟩
  have gb:∀ (j:Nat),itT[j]?=some tB->∃ u,(id xs[i])[j]?=some u/\ab3 u/\R w (fun _=>False) E0 (.bool (bV ((xs.getD i []).getD j undef))) u:=fun j hjt=>by
   obtain ⟨u,hu,hl,e⟩:=get i hi j tB hjt
   obtain ⟨r1,r2⟩:=R_bool (w:=w) (X:=fun _=>False) (E:=E0) uB hl
   exact ⟨u,hu,r2,e▸r1⟩
  match j,hj with
  | 0,_=>exact gi 0 uI rfl
  | 1,_=>
   obtain ⟨u,hu,hl,e⟩:=get i hi 1 tRS rfl
   exact ⟨u,hu,ao4 (e:=70) (by kernel_rfl) hl,(e▸(hR u hl).1:R w (fun _=>False) E0 (.sl (FR ((xs.getD i []).getD 1 undef)).1 3 (fun i'=>lst (rnL ((FR ((xs.getD i []).getD 1 undef)).2 i')))) u)⟩
  | 2,_=>exact gi 2 uI rfl
  | 3,_=>exact gi 3 uU rfl
  | 4,_=>exact gi 4 uU rfl
  | 5,_=>exact gi 5 uU rfl
  | 6,_=>exact gi 6 uU rfl
  | 7,_=>exact gi 7 uU rfl
  | 8,_=>exact gi 8 uU rfl
  | 9,_=>exact gi 9 uU rfl
  | 10,_=>exact gi 10 uU rfl
  | 11,_=>exact gi 11 uI rfl
  | 12,_=>exact gi 12 uI rfl
  | 13,_=>exact gi 13 uI rfl
  | 14,_=>exact gi 14 uI rfl
  | 15,_=>exact gi 15 uI rfl
  | 16,_=>
   obtain ⟨u,hu,hl,e⟩:=get i hi 16 tSS rfl
   exact ⟨u,hu,ao4 (e:=119) (by kernel_rfl) hl,(e▸(hS u hl).1:R w (fun _=>False) E0 (.sl (FS ((xs.getD i []).getD 16 undef)).1 9 (fun i'=>lst (stpL ((FS ((xs.getD i []).getD 16 undef)).2 i')))) u)⟩
  | 17,_=>exact gi 17 uI rfl
  | 18,_=>exact gi 18 uI rfl
  | 19,_=>
   obtain ⟨u,hu,hl,e⟩:=get i hi 19 tPS rfl
   exact ⟨u,hu,ao4 (e:=28) (by kernel_rfl) hl,(e▸(hP u hl).1:R w (fun _=>False) E0 (.sl (FP ((xs.getD i []).getD 19 undef)).1 8 (fun i'=>lst (inkL ((FP ((xs.getD i []).getD 19 undef)).2 i')))) u)⟩
  | 20,_=>
   obtain ⟨u,hu,hl,e⟩:=get i hi 20 tUS rfl
   exact ⟨u,hu,ao4 (e:=tU) (by kernel_rfl) hl,(e▸(hU u hl).1:R w (fun _=>False) E0 (.sl (FU ((xs.getD i []).getD 20 undef)).1 1 (fun i' _=> .int .u8 ((FU ((xs.getD i []).getD 20 undef)).2 i'))) u)⟩
  | 21,_=>exact gi 21 uI rfl
  | 22,_=>exact gi 22 uI rfl
  | 23,_=>exact gi 23 uI rfl
  | 24,_=>exact gi 24 uI rfl
  | 25,_=>exact gi 25 uI rfl
  | 26,_=>exact gi 26 uI rfl
  | 27,_=>exact gb 27 rfl
  | 28,_=>exact gb 28 rfl
  | 29,_=>exact gi 29 uU rfl
  | 30,_=>exact gi 30 uI rfl
  | 31,_=>exact gb 31 rfl
  | 32,_=>exact gb 32 rfl
  | 33,_=>exact gb 33 rfl
  | _+34,hj=>exact absurd hj (by simp [itL]<;>omega)
 ·have hi:i<xs.length:=hi
  have g8:∀ (j:Nat),itT[j]?=some tU->0<=iV ((xs.getD i []).getD j undef)/\iV ((xs.getD i []).getD j undef)<=255:=fun j hjt=>by
   obtain ⟨u,hu,hl,e⟩:=get i hi j tU hjt
   rw [e]
   exact u8_of (R_int (w:=w) (X:=fun _=>False) (E:=E0) uU hl).2.2
  obtain ⟨u1,_,l1,e1⟩:=get i hi 1 tRS rfl
  obtain ⟨u2,_,l2,e2⟩:=get i hi 16 tSS rfl
  obtain ⟨u3,_,l3,e3⟩:=get i hi 19 tPS rfl
  obtain ⟨u4,_,l4,e4⟩:=get i hi 20 tUS rfl
  refine ⟨g8 29 rfl,⟨⟨g8 3 rfl,g8 4 rfl,g8 5 rfl,g8 6 rfl⟩,g8 7 rfl,g8 8 rfl,g8 9 rfl,g8 10 rfl⟩,?_,?_,?_,?_⟩
  ·show ∀ j,j<(FS ((xs.getD i []).getD 16 undef)).1->u8i ((FS ((xs.getD i []).getD 16 undef)).2 j).ink
   rw [e2]; exact (hS u2 l2).2.2
  ·show ∀ j,j<(FP ((xs.getD i []).getD 19 undef)).1->an8 ((FP ((xs.getD i []).getD 19 undef)).2 j)
   rw [e3]; exact (hP u3 l3).2.2
  ·show ∀ j,j<(FU ((xs.getD i []).getD 20 undef)).1->0<=(FU ((xs.getD i []).getD 20 undef)).2 j/\(FU ((xs.getD i []).getD 20 undef)).2 j<=255
   rw [e4]; exact (hU u4 l4).2.2
  ·show (FR ((xs.getD i []).getD 1 undef)).1<=9223372036854775807
   rw [e1]; exact (hR u1 l1).2
theorem leaf_names {w:World}{v:Value}(h:Leaf Tryz.prog w 22 v):∃ (n:Nat) (nm:Nat->ByteArray),R w (fun _=>False) E0 (.sl n 1 (fun i _=> .str (nm i))) v/\n<=maxLen:=by
 obtain ⟨xs,h3,h4,h5⟩:=at5 (n:=20) (e:=9) (ls:=[9]) (α:=ByteArray) (c:=fun s=>[.string s]) (mk:=fun cs=>strOf (ofV (cs.getD 0 undef))) (ok:=fun _=>True)
  (by kernel_rfl) (show Tryz.prog.cellsOf 9=1 by kernel_rfl) (by decide) (by kernel_rfl) (fun cs hcs=>by
   obtain ⟨y,m,rfl,e1,l1⟩:=All2.cons_inv hcs
   obtain rfl:=All2.aR1 l1
   obtain ⟨s,rfl,_⟩:=a47 (by kernel_rfl) e1
   exact ⟨rfl,trivial⟩) h
 refine ⟨xs.length,fun i=>xs.getD i ByteArray.empty,R_sl (by decide) h3 (fun _=>id) fun i j hi hj=>?_,h5⟩
 have e:xs.getD i ByteArray.empty=xs[i]:=by rw [List.getD_eq_getElem?_getD,List.getElem?_eq_getElem hi]; rfl
 match j,hj with
 | 0,_=>exact ⟨_,rfl,rfl,by show R w _ E0 (.str (xs.getD i ByteArray.empty)) _; rw [e]; exact .str⟩
theorem ls_u8 {L:LsG}(h:∀ i,i<L.n->It8 (L.it i)):LsU8 L:=⟨fun i hi=>(h i hi).alpha,fun i hi=>(h i hi).ink,fun i hi=>(h i hi).st,fun i hi=>(h i hi).px,fun i hi=>(h i hi).sf,fun i hi=>(h i hi).nr⟩
theorem itL_noOwn (x:It) (j:Nat):ae7 (lst (itL x) j):=ac5 (as6 x) j
theorem lsS_own (L:LsG):ae7 (lsS L):=ac5 (l:=lsL L) (fun s hs=>by
 simp only [lsL,List.mem_cons,List.not_mem_nil,or_false] at hs
 rcases hs with rfl | rfl | rfl | rfl
 ·trivial
 ·trivial
 ·exact fun _ _=>trivial
 ·exact fun i j=>itL_noOwn _ j)
end Go.Proofs.YthappngbapbkfaaGreat.Lli
set_option linter.unusedSimpArgs false
set_option linter.unusedVariables false
namespace Go.Proofs.YthappngbapbkfaaGreat.Rge
open Go.Shelf Go.RowKit Go.Lib Go.Sort Num Rga
theorem or_walk (x y:Int) (b:Nat) (W:World) (h0:W.cell? ⟨b,0,none⟩=some (.int .i64 x)) (h1:W.cell? ⟨b,1,none⟩=some (.int .i64 y)) :
  Calls Tryz.prog 57 #[.slice (some ⟨b,0,none⟩) 2 2] W fun e w'=>e = .returned (.int .i64 (orI x y))/\w'=W:=by
 by_cases hx:x=0
 ·have e:orI x y=y:=if_pos hx
  rw [e]
  clear e
  subst hx
  by_cases hy:y=0
  ·subst hy
   go_enter Tryz.func57,Tryz.ntmps57
   go_wp2
   refine wp_loop_rounds 3 ?_
   rw [rounds_succ]
   go_wp2
   rw [rounds_succ]
   go_wp2
   rw [rounds_succ]
   go_wp2
   go_ret
   exact ⟨rfl,rfl⟩
  ·go_enter Tryz.func57,Tryz.ntmps57
   go_wp2
   refine wp_loop_rounds 3 ?_
   rw [rounds_succ]
   go_wp2
   rw [rounds_succ]
   go_wp2
   go_ret
   exact ⟨rfl,rfl⟩
 ·have e:orI x y=x:=if_neg hx
  rw [e]
  clear e
  go_enter Tryz.func57,Tryz.ntmps57
  go_wp2
  refine wp_loop_rounds 3 ?_
  rw [rounds_succ]
  go_wp2
  go_ret
  exact ⟨rfl,rfl⟩
theorem cell_new {X:World}{vs:Array Value}{T n i:Nat}{v:Value}(hn:X.heap.size=n) (hv:vs[i]?=some v):(X.alloc (.cells vs T)).cell? ⟨n,i,none⟩=some v:=by
 subst hn
 simp [hv]
theorem cmp_walk (a0 a1 a2 b0 b1 b2:Int) (W:World) (h0 : -9223372036854775808<=a0-b0/\a0-b0<=9223372036854775807) (h1 : -9223372036854775808<=a1-b1/\a1-b1<=9223372036854775807) :
  Calls Tryz.prog 56 #[.agg #[.int .i64 a0,.int .i64 a1,.int .i64 a2],.agg #[.int .i64 b0,.int .i64 b1,.int .i64 b2]] W fun e w'=>e = .returned (.int .i64 (orI (a0-b0) (a1-b1)))/\∃ q os',w'=grow (W.drewN q) os':=by
 have hcon:=fun b W' h0 h1=>or_walk (a0-b0) (a1-b1) b W' h0 h1
 generalize orI (a0-b0) (a1-b1)=r at hcon ⊢
 go_enter Tryz.func56,Tryz.ntmps56
 go_wp2_with (go_at_call 57; refine (hcon _ _ (cell_new (by simp) rfl) (cell_new (by simp) rfl)).mono ?_; rintro e w' ⟨rfl,rfl⟩)
 go_ret
 exact ⟨rfl,0,_,by rw [alloc_eq_grow,alloc_eq_grow,alloc_eq_grow,grow_grow,grow_grow]; rfl⟩
end Go.Proofs.YthappngbapbkfaaGreat.Rge
namespace Go.Proofs
open Go.Shelf
def Tryz.a10:Go.Shelf.Ren:=⟨fun | 6=>55 | 15=>78 | 14=>77 | 28=>105 | 29=>106 | 20=>97 | 21=>98 | 22=>99 | 23=>100 | 24=>101 | 25=>102 | 26=>103 | 27=>104 | 46=>125 | 47=>126 | 48=>127 | 49=>128 | 50=>129 | 57=>146 | n=>n,fun | 22=>26 | 24=>70 | 25=>104 | 3=>3 | 39=>143 | 0=>0 | 53=>184 | 55=>186 | 4=>4 | 46=>178 | 45=>177 | 50=>101 | 5=>5 | 9=>9 | 66=>199 | 70=>203 | 76=>208 | 77=>209 | n=>n,fun | n=>n⟩
theorem Tryz.a11:Go.Proofs.SlLaysF0.n6 Tryz.prog Tryz.a10:={
  mixed:=by kernel_rfl
  f6:=⟨Tryz.f55.name,by decide,Tryz.func55.trans (congrArg some (by kernel_rfl))⟩
  f14:=⟨Tryz.f77.name,by decide,Tryz.func77.trans (congrArg some (by kernel_rfl))⟩
  f15:=Tryz.func78.trans (congrArg some (by kernel_rfl))
  f20:=⟨Tryz.f97.name,by decide,Tryz.func97.trans (congrArg some (by kernel_rfl))⟩
  f21:=⟨Tryz.f98.name,by decide,Tryz.func98.trans (congrArg some (by kernel_rfl))⟩
  f22:=⟨Tryz.f99.name,by decide,Tryz.func99.trans (congrArg some (by kernel_rfl))⟩
  f23:=⟨Tryz.f100.name,by decide,Tryz.func100.trans (congrArg some (by kernel_rfl))⟩
  f24:=⟨Tryz.f101.name,by decide,Tryz.func101.trans (congrArg some (by kernel_rfl))⟩
  f25:=⟨Tryz.f102.name,by decide,Tryz.func102.trans (congrArg some (by kernel_rfl))⟩
  f26:=⟨Tryz.f103.name,by decide,Tryz.func103.trans (congrArg some (by kernel_rfl))⟩
  f27:=⟨Tryz.f104.name,by decide,Tryz.func104.trans (congrArg some (by kernel_rfl))⟩
  f28:=Tryz.func105.trans (congrArg some (by kernel_rfl))
  f29:=Tryz.func106.trans (congrArg some (by kernel_rfl))
  f46:=⟨Tryz.f125.name,by decide,Tryz.func125.trans (congrArg some (by kernel_rfl))⟩
  f47:=Tryz.func126.trans (congrArg some (by kernel_rfl))
  f48:=Tryz.func127.trans (congrArg some (by kernel_rfl))
  f49:=⟨Tryz.f128.name,by decide,Tryz.func128.trans (congrArg some (by kernel_rfl))⟩
  f50:=⟨Tryz.f129.name,by decide,Tryz.func129.trans (congrArg some (by kernel_rfl))⟩
  f57:=⟨Tryz.f146.name,by decide,Tryz.func146.trans (congrArg some (by kernel_rfl))⟩
  t0:=Tryz.underlying0
  a0:=Tryz.isAgg0
  z0:=Tryz.sizeOf0
  v0:=Tryz.zeroValue0
  t3:=Tryz.underlying3
  a3:=Tryz.isAgg3
  z3:=Tryz.sizeOf3
  v3:=Tryz.zeroValue3
  t4:=Tryz.underlying4
  a4:=Tryz.isAgg4
  z4:=Tryz.sizeOf4
  v4:=Tryz.zeroValue4
  t5:=Tryz.underlying5
  a5:=Tryz.isAgg5
  z5:=Tryz.sizeOf5
  v5:=Tryz.zeroValue5
  t9:=Tryz.underlying9
  a9:=Tryz.isAgg9
  z9:=Tryz.sizeOf9
  v9:=Tryz.zeroValue9
  t22:=Tryz.underlying26
  a22:=Tryz.isAgg26
  z22:=Tryz.sizeOf26
  v22:=Tryz.zeroValue26
  t25:=Tryz.underlying104
  a25:=Tryz.isAgg104
  z25:=Tryz.sizeOf104
  v25:=Tryz.zeroValue104
  t39:=Tryz.underlying143
  a39:=Tryz.isAgg143
  z39:=Tryz.sizeOf143
  v39:=Tryz.zeroValue143
  t45:=Tryz.underlying177
  a45:=Tryz.isAgg177
  z45:=Tryz.sizeOf177
  v45:=Tryz.zeroValue177
  t46:=Tryz.underlying178
  a46:=Tryz.isAgg178
  z46:=Tryz.sizeOf178
  v46:=Tryz.zeroValue178
  t50:=Tryz.underlying101
  a50:=Tryz.isAgg101
  z50:=Tryz.sizeOf101
  v50:=Tryz.zeroValue101
  t53:=Tryz.underlying184
  a53:=Tryz.isAgg184
  z53:=Tryz.sizeOf184
  v53:=Tryz.zeroValue184
  t55:=Tryz.underlying186
  a55:=Tryz.isAgg186
  z55:=Tryz.sizeOf186
  v55:=Tryz.zeroValue186
  t66:=Tryz.underlying199
  a66:=Tryz.isAgg199
  z66:=Tryz.sizeOf199
  v66:=Tryz.zeroValue199
  t70:=Tryz.underlying203
  a70:=Tryz.isAgg203
  z70:=Tryz.sizeOf203
  v70:=Tryz.zeroValue203
  t76:=Tryz.underlying208
  a76:=Tryz.isAgg208
  z76:=Tryz.sizeOf208
  v76:=Tryz.zeroValue208
  t77:=Tryz.underlying209
  a77:=Tryz.isAgg209
  z77:=Tryz.sizeOf209
  v77:=Tryz.zeroValue209 }
end Go.Proofs
set_option linter.unusedSimpArgs false
set_option linter.unusedVariables false
namespace Go.Proofs.YthappngbapbkfaaGreat.Rgf
open Go.Shelf Go.RowKit Go.Lib Go.Sort Sx Num Rga Rgl Rgm Rgn Rge
theorem specM_hand {P:Program}{f:FuncId}(hent:∀ args w,(callFunc f args).run P w = .ok (.enter f args) w)
  {paths:List NP}{γ:Type}{dec:List SV->List SO->Option γ}{args:γ->List SV}{objs:γ->List SO}{pre:γ->Prop}{res:γ->SV}{post:γ->List SO}
  (h:∀ g,pre g->∀ (vals:Array Value) (w:World) (X:Fr) (E:Env),(∀ k,X.nm k≠none->k<paths.length)->Rep w X (objs g) E w->vals.size=(args g).length->
   (∀ i,i<(args g).length->R w (Xo X E (objs g)) E ((args g).getD i .any) (vals.getD i undef))->
   Calls P f vals w fun e w'=>∃ v Es,e = .returned v/\Rep w X (post g) Es w'/\R w' (Xo X Es (post g)) Es (res g) v):aa2 P (ad5 f paths dec args objs pre res post):=by
 refine ⟨hent,fun l H HF nm y he hns hrun=>?_,fun l H nm y hrun hask w0 X0 E w hrep hfree vals ha=>?_⟩
 ·simp only [ad5] at hrun ⊢
  split at hrun
  case h_2=>cases hrun
  rename_i ks hks
  split at hrun
  case h_2=>cases hrun
  rename_i hnd
  simp only [Bool.and_eq_true] at hnd
  rw [av3 he paths [] ks hks]
  simp only [aM5 he hnd.2,hnd.1,hnd.2,Bool.and_self]
  exact hrun
 ·simp only [ad5] at hrun
  split at hrun
  case h_2=>cases hrun
  rename_i ks hks
  split at hrun
  case h_2=>cases hrun
  rename_i hnd
  simp only [Bool.and_eq_true] at hnd
  obtain ⟨hn,hal⟩:=hnd
  split at hrun
  case h_2=>cases hrun
  rename_i g hdec
  cases hrun
  obtain ⟨⟨hle,⟨hpre⟩⟩,hholes⟩:=ap6 hask
  obtain ⟨hkn,hkl⟩:=aq1 hrep ha paths [] ks (fun k hk=>by cases hk) (aH9 hholes) hks
  have hkl':ks.length=paths.length:=by simpa using hkl
  unfold argLe at hle
  split at hle
  case h_2=>exact hle.elim
  rename_i hll
  have hll':=Nat.eq_of_beq_eq_true hll
  rw [List.length_map] at hll'
  obtain ⟨hs,hxs⟩:=hrep.sml hn hal
  have hv:=hrep.aU7 hal
  have hnm:∀ k,(smlF X0 H E ks).nm k≠none->k<paths.length:=fun k hk=>by
   cases he:smlE E ks k with
   | none=>exact absurd he hk
   | some e=>
    obtain ⟨k',hk',_⟩:=an2 he
    have:=(List.getElem?_eq_some_iff.1 hk').1
    omega
  have hT:=ap1 (args g).length vals (l.map (sml (aa7 H ks) ks)) w (Xo (smlF X0 H E ks) (smlE E ks) ((aa7 H ks).map (smlO (aa7 H ks) ks))) (smlE E ks) (by rw [ha.1,List.length_map]) (by rw [List.length_map,hll']; exact Nat.le_refl _) (fun i hi=>by
   rw [List.length_map] at hi
   have e1:(l.map (sml (aa7 H ks) ks)).getD i .any=sml (aa7 H ks) ks (l.getD i .any):=by
    rw [List.getD_eq_getElem?_getD,List.getElem?_map,List.getD_eq_getElem?_getD,List.getElem?_eq_getElem hi]; rfl
   rw [e1]
   exact ba1 hxs hv (ha.2 i hi))
  have hvs:vals.size=(args g).length:=by rw [ha.1,hll']
  have hst:StR w (smlF X0 H E ks) (args g).length ⟨av9 0 (l.map (sml (aa7 H ks) ks)),(aa7 H ks).map (smlO (aa7 H ks) ks)⟩ ⟨vals++Array.replicate ((args g).length-vals.size) undef,[]⟩ w:=⟨smlE E ks,hs,hT.1,au4.nil _ _ _,hT.2⟩
  have hst2:=hst.le (m:=((aa7 H ks).map (smlO (aa7 H ks) ks)).length) (fun k hk=>by rw [List.length_map,aa7,List.length_map,hkl']; exact hnm k hk) hle.get.1 hle.get.2
  obtain ⟨E2,hrep2,hsz2,_,hT2⟩:=hst2
  refine (h g hpre vals w (smlF X0 H E ks) E2 hnm hrep2 hvs (fun i hi=>?_)).mono ?_
  ·have:=hT2 i hi
   rw [aA2 _ _ _ (Nat.zero_le _),Nat.sub_zero] at this
   rw [hvs,Nat.sub_self] at this
   simpa using this
  ·rintro e w' ⟨v,Es,rfl,h3,h4⟩
   exact ⟨v,rfl,Goes.of_sml hrep hn hkn hal h3 h4⟩
instance:Inhabited Rn:=⟨⟨0,0,0⟩⟩
def cl (v:Int):Int:=if v < -8192 then -8192 else if 8192<v then 8192 else v
theorem a95 {v:Int}(h1 : -8192<=v) (h2:v<=8192):cl v=v:=by
 unfold cl
 rw [if_neg (by omega),if_neg (by omega)]
theorem cl_b (v:Int) : -8192<=cl v/\cl v<=8192:=by
 unfold cl
 split
 ·omega
 ·split<;>omega
def enR (r:Rn):List Value:=[.int .i64 (cl r.y),.int .i64 (cl r.x0),.int .i64 (cl r.x1)]
def cfR (x y:Rn):Int:=orI (cl x.y-cl y.y) (cl x.x0-cl y.x0)
theorem lt_iff (x y:Rn):ltOf cfR x y=true<->(cl x.y<cl y.y\/(cl x.y=cl y.y/\cl x.x0<cl y.x0)):=by
 unfold ltOf cfR orI
 rw [decide_eq_true_iff]
 split<;>omega
theorem a36 (x y:Rn):ltOf cfR x y=false<->¬ (cl x.y<cl y.y\/(cl x.y=cl y.y/\cl x.x0<cl y.x0)):=by
 rw [<-lt_iff,Bool.not_eq_true]
theorem swo:SWO (ltOf cfR) where
 irrefl x:=by rw [a36]; omega
 trans x y z h1 h2:=by rw [lt_iff] at *; omega
 ntrans x y z h1 h2:=by rw [a36] at *; omega
theorem cmpLays (blk off sz:Nat) (w:World):CmpLays Tryz.prog 56 #[] enR 3 cfR blk off sz w:=fun _ _ _ _ x y=>by
 have a1:=cl_b x.y; have a2:=cl_b y.y; have a3:=cl_b x.x0; have a4:=cl_b y.x0
 exact cmp_walk (cl x.y) (cl x.x0) (cl x.x1) (cl y.y) (cl y.x0) (cl y.x1) _ (by omega) (by omega)
def srtA (d:Array Rn):Array Rn:=pdq (ltOf cfR) d 0 d.size (Lib.bitLen d.size) true true
def srt (g:Rg):List Rn:=(srtA g.L.toArray).toList
theorem ar5 (d:Array Rn):PermIn 0 d.size d (srtA d)/\SortedIn (ltOf cfR) 0 d.size (srtA d):=
 pdq_sorts (ltOf cfR) swo d 0 d.size (Lib.bitLen d.size) true true (Nat.zero_le _) (Nat.le_refl _) (Or.inl rfl)
theorem a03 (g:Rg):(srt g).length=g.n:=by
 have:=(ar5 g.L.toArray).1.1
 unfold srt
 rw [Array.length_toList,this,List.size_toArray,Rg.len]
theorem aP9 (g:Rg):(srt g).Perm g.L:=by
 have h:=(ar5 g.L.toArray).1
 have h2:=h.2.2
 have e1:((srtA g.L.toArray).extract 0 g.L.toArray.size)=srtA g.L.toArray:=by rw [<-h.1]; simp
 have e2:(g.L.toArray.extract 0 g.L.toArray.size)=g.L.toArray:=by simp
 rw [e1,e2] at h2
 unfold srt
 simpa using h2
theorem srt_sorted (g:Rg) {i j:Nat}(hij:i<j) (hj:j<g.n):ltOf cfR (rI (srt g) j) (rI (srt g) i)=false:=by
 have h:=(ar5 g.L.toArray).2 i j (Nat.zero_le _) hij (by rw [List.size_toArray,Rg.len]; exact hj)
 have hs:(srtA g.L.toArray).size=g.n:=by rw [(ar5 g.L.toArray).1.1,List.size_toArray,Rg.len]
 have e:∀ k,k<g.n->rI (srt g) k=(srtA g.L.toArray)[k]!:=fun k hk=>by
  unfold rI srt
  rw [getElem!_pos _ k (by omega),List.getD_eq_getElem?_getD,List.getElem?_eq_getElem (by rw [Array.length_toList]; omega)]
  simp
 rw [e i (by omega),e j hj]
 exact h
theorem bc0 {w w':World}{X:Fr}{E:Env}{n:Nat}{g g':Nat->Nat->SV}{T:TypeId}{v:Value}{us:Nat->Option Nat}(h:Rep w X [.row 0 n 3 g T] E w) (he:E 0=some (.slc 0 v us))
  (hos:w'.os=w.os) (htp:w'.tape=w.tape) (hout:w'.output=w.output) (hsz:w.heap.size<=w'.heap.size)
  (hblk:∀ k,k<w.heap.size->(∀ b,holds (.slc 0 v us) (.row 0 n 3 g T) b->k≠b)->w'.heap[k]?=w.heap[k]?)
  (hok:∃ xs,ah4 w' T 3 v n xs/\∀ i j,i<n->j<3->ab3 (xs.getD (i*3+j) undef)/\∀ X',R w' X' E0 (g' i j) (xs.getD (i*3+j) undef)) :
  Rep w X [.row 0 n 3 g' T] E w':=by
 have hd:∀ k e,E k=some e->k=0/\e = .slc 0 v us:=fun k e hk=>by
  have h1:=h.dom k e hk
  have h0:k=0:=by simp at h1; omega
  subst h0
  rw [he] at hk
  exact ⟨rfl,(Option.some.inj hk).symm⟩
 have hh:∀ b,holds (.slc 0 v us) (.row 0 n 3 g' T) b->holds (.slc 0 v us) (.row 0 n 3 g T) b:=fun b hb=>hb
 refine ⟨⟨hos,htp,hout,hsz,fun k hk hdk=>hblk k hk (fun b hb hkb=>?_)⟩,h.x0,h.nm,h.dom,fun k e hk=>?_,fun k e b hk hb=>?_,fun k k' e e' b hk hk' hb hb'=>?_⟩
 ·rcases h.low 0 _ b he hb with h1 | h1
  ·omega
  ·exact hdk (hkb▸h1)
 ·obtain ⟨rfl,rfl⟩:=hd k e hk
  obtain ⟨xs,h1,h2⟩:=hok
  exact ⟨rfl,xs,h1,fun i j hi hj=>⟨(h2 i j hi hj).1,(h2 i j hi hj).2 _⟩⟩
 ·obtain ⟨rfl,rfl⟩:=hd k e hk
  exact h.low 0 _ b he (hh b hb)
 ·rw [(hd k e hk).1,(hd k' e' hk').1]
theorem sort_block {w:World}{b:Nat}{cur:Array Value}{T:TypeId}(hb:w.heap[b]?=some (.cells cur T (0,0))) (m:Nat) (d:Array Rn) (os:Array Obj) :
  (sortWorldK enR 3 w b 0 m d os).heap[b]?=some (.cells (putCells id 0 (flatK enR 3 d) cur) T (0,0)):=by
 have hlt:b<w.heap.size:=lt_of_block hb
 show ((w.heap.modify b (onCells (putCells id 0 (flatK enR 3 d))))++os)[b]?=_
 rw [Array.getElem?_append_left (by rw [Array.size_modify]; exact hlt),Array.getElem?_modify,if_pos rfl,hb]
 rfl
theorem sort_other {w:World}{b k:Nat}(hk:k<w.heap.size) (hne:k≠b) (m:Nat) (d:Array Rn) (os:Array Obj):(sortWorldK enR 3 w b 0 m d os).heap[k]?=w.heap[k]?:=by
 show ((w.heap.modify b (onCells (putCells id 0 (flatK enR 3 d))))++os)[k]?=_
 rw [Array.getElem?_append_left (by rw [Array.size_modify]; exact hk),Array.getElem?_modify,if_neg (Ne.symm hne)]
theorem sort_size (w:World) (b m:Nat) (d:Array Rn) (os:Array Obj):w.heap.size<=(sortWorldK enR 3 w b 0 m d os).heap.size:=by
 show _<=((w.heap.modify b (onCells (putCells id 0 (flatK enR 3 d))))++os).size
 rw [Array.size_append,Array.size_modify]
 exact Nat.le_add_right _ _
theorem bc1 {r:Rn}{j:Nat}(hj:j<3) (P:SV->Value->Prop) (h0:P (.int .i64 r.y) (.int .i64 r.y)) (h1:P (.int .i64 r.x0) (.int .i64 r.x0)) (h2:P (.int .i64 r.x1) (.int .i64 r.x1)) (ok:okR r):P (lst (rnL r) j) ((enR r)[j]!):=by
 obtain ⟨⟨⟨a1,a2⟩,⟨a3,a4⟩,a5,a6⟩,a7⟩:=ok
 unfold enR
 rw [a95 a1 (by omega),a95 a3 a4,a95 a5 a6]
 match j,hj with
 | 0,_=>exact h0
 | 1,_=>exact h1
 | 2,_=>exact h2
def soD:List SV->List SO->Option Rg
 | [_,.fn _ _ _],[.row _ n _ g _]=>some ⟨n,fun i=>rnD (g i)⟩
 | _,_=>none
def rowS (ver:Nat) (n:Nat) (f:Nat->Rn):SO:= .row ver n 3 (fun i=>lst (rnL (f i))) 70
def spSort:FSpec:=ad5 55 [.arg 0] soD (fun _=>[.osl 0 0,.fn 56 0 (lst [])]) (fun g=>[rowS 0 g.n g.f]) (fun g=>(∀ i,i<g.n->okR (g.f i))/\g.n<=4294967296) (fun _=> .tup 0 (lst [])) (fun g=>[rowS 0 g.n (rI (srt g))])
theorem ok_sort:aa2 Tryz.prog spSort:=by
 refine specM_hand (enters_of Tryz.func55 (by kernel_rfl) rfl) (fun g hg vals w X E hnm hrep hsz hr=>?_)
 obtain ⟨hok,hn⟩:=hg
 have h0:=hr 0 (by show 0<2; decide)
 have h1:=hr 1 (by show 1<2; decide)
 obtain ⟨v0,v1,rfl⟩:∃ v0 v1,vals = #[v0,v1]:=by
  have hs:vals.size=2:=hsz
  exact ⟨vals[0],vals[1],by
   apply Array.ext
   ·exact hs
   ·intro i hi1 hi2
    have:i=0\/i=1:=by omega
    rcases this with rfl | rfl<;>rfl⟩
 have h0:R w (Xo X E [rowS 0 g.n g.f]) E (.osl 0 0) v0:=h0
 have h1:R w (Xo X E [rowS 0 g.n g.f]) E (.fn 56 0 (lst [])) v1:=h1
 have hv1:v1 = .func (.func 56) #[] #[]:=by
  cases h1 with
  | fn hs hr=>rw [Array.size_eq_zero_iff.1 hs]
 subst hv1
 obtain ⟨us,he⟩:∃ us,E 0=some (.slc 0 v0 us):=by
  cases h0 with
  | osl he _=>exact ⟨_,he⟩
  | oslOld he hl _=>
   have:=(hrep.ok 0 _ he).1
   omega
 obtain ⟨_,xs,hown,hxs⟩:=hrep.ok 0 _ he
 have rtup:∀ (w':World) (X':Nat->Prop) (E':Env),R w' X' E' (.tup 0 (lst [])) (.tuple #[]):=fun _ _ _=> .tup rfl (fun i hi=>absurd hi (Nat.not_lt_zero _))
 rcases hown with ⟨a,rfl,hz,rfl⟩ | ⟨b,cap,cur,rfl,hb,hlc,hcap,hcs,htake,hxl⟩
 ·refine (AnyF.slices_SortFunc_none Tryz.a11 a 0 (.func (.func 56) #[] #[]) w).mono ?_
  rintro e w' ⟨rfl,rfl⟩
  refine ⟨.tuple #[],E,rfl,bc0 hrep he rfl rfl rfl (Nat.le_refl _) (fun _ _ _=>rfl) ⟨[],.inl ⟨a,rfl,hz,rfl⟩,fun i j hi=>?_⟩,rtup _ _ _⟩
  rw [hz] at hi
  exact absurd hi (Nat.not_lt_zero _)
 ·have hd:g.L.toArray.size=g.n:=by rw [List.size_toArray,Rg.len]
  have gL:∀ i,i<g.n->(g.L.toArray)[i]! = g.f i:=fun i hi=>by
   rw [getElem!_pos _ i (by omega)]
   simp [Rg.L]
  have am9:∀ j,j<g.n*3->cur[j]?=some ((flatK enR 3 g.L.toArray)[j]!):=fun j hj=>by
   have hij:j / 3*3+j % 3=j:=by omega
   have hi:j / 3<g.n:=by omega
   have hj3:j % 3<3:=by omega
   obtain ⟨_,hR⟩:=hxs (j / 3) (j % 3) hi hj3
   rw [hij] at hR
   have ex:xs.getD j undef=(cur[j]?).getD undef:=by
    rw [<-htake,List.getD_eq_getElem?_getD,List.getElem?_take_of_lt hj]
    simp
   have hlt:j<cur.size:=by rw [hcs]; have:=Nat.mul_le_mul_right 3 hlc; omega
   rw [ex] at hR
   rw [Array.getElem?_eq_getElem hlt] at hR ⊢
   rw [get_flatK _ _ _ _ (by rw [hd]; exact hj),gL _ hi]
   congr 1
   refine bc1 (P:=fun s u=>R w (Xo X E [rowS 0 g.n g.f]) E0 s cur[j]->cur[j]=u) hj3 ?_ ?_ ?_ (hok _ hi) hR
   ·intro h; exact am5 h
   ·intro h; exact am5 h
   ·intro h; exact am5 h
  have hH:HoldsK enR 3 w b 0 g.L.toArray:=fun j hj=>by
   rw [size_flatK,hd] at hj
   have hc:=am9 j hj
   rw [Nat.zero_add]
   refine ⟨?_,?_⟩
   ·unfold World.cell?
    rw [hb]
    exact hc
   ·unfold World.frozen?
    rw [hb]
    simp
  have hcon:=AnyQ.slices_SortFunc_eq Tryz.a11 3 (fun w=>by kernel_rfl) (fun w=>by kernel_rfl) enR (fun _=>rfl) (fun x v hv=>by
   simp only [enR,List.mem_cons,List.not_mem_nil,or_false] at hv
   rcases hv with rfl | rfl | rfl<;>rfl) cfR swo 56 #[] b 0 (cap+1) g.L.toArray w (enters_of Tryz.func56 (by kernel_rfl) rfl) (cmpLays _ _ _ _) hH (lt_of_block hb) (by rw [hd]; omega)
  rw [hd] at hcon
  refine hcon.mono ?_
  rintro e w' ⟨rfl,m,os,rfl⟩
  have es:pdq (ltOf cfR) g.L.toArray 0 g.n (Lib.bitLen g.n) true true=srtA g.L.toArray:=by unfold srtA; rw [hd]
  rw [es]
  have hsd:(srtA g.L.toArray).size=g.n:=by rw [(ar5 g.L.toArray).1.1,hd]
  have pc:∀ j,j<g.n*3->(putCells id 0 (flatK enR 3 (srtA g.L.toArray)) cur)[j]?=some ((flatK enR 3 (srtA g.L.toArray))[j]!):=fun j hj=>by
   have hlt:j<cur.size:=by rw [hcs]; have:=Nat.mul_le_mul_right 3 hlc; omega
   unfold putCells
   rw [Array.getElem?_mapIdx,Array.getElem?_eq_getElem hlt]
   simp only [Option.map_some]
   rw [if_pos ⟨Nat.zero_le _,by rw [size_flatK,hsd,Nat.zero_add]; exact hj⟩,Nat.sub_zero]
   rfl
  have psz:(putCells id 0 (flatK enR 3 (srtA g.L.toArray)) cur).size=cur.size:=by unfold putCells; simp
  refine ⟨.tuple #[],E,rfl,bc0 hrep he rfl rfl rfl (sort_size _ _ _ _ _) (fun k hk hne=>sort_other hk (hne b rfl) _ _ _) ⟨(putCells id 0 (flatK enR 3 (srtA g.L.toArray)) cur).toList.take (g.n*3),.inr ⟨b,cap,_,rfl,sort_block hb m _ os,hlc,hcap,by rw [psz,hcs],rfl,?_⟩,fun i j hi hj=>?_⟩,rtup _ _ _⟩
  ·rw [List.length_take,Array.length_toList,psz,hcs]
   have:=Nat.mul_le_mul_right 3 hlc
   omega
  ·have hk:i*3+j<g.n*3:=by omega
   have ex:((putCells id 0 (flatK enR 3 (srtA g.L.toArray)) cur).toList.take (g.n*3)).getD (i*3+j) undef=(enR (rI (srt g) i))[j]!:=by
    rw [List.getD_eq_getElem?_getD,List.getElem?_take_of_lt hk,Array.getElem?_toList,pc _ hk,get_flatK _ _ _ _ (by rw [hsd]; exact hk),show (i*3+j) / 3=i by omega,show (i*3+j) % 3=j by omega]
    have e:(srtA g.L.toArray)[i]! = rI (srt g) i:=by
     unfold rI srt
     rw [getElem!_pos _ i (by omega),List.getD_eq_getElem?_getD,List.getElem?_eq_getElem (by rw [Array.length_toList]; omega)]
     simp
    rw [e]
    rfl
   rw [ex]
   have okd:okR (rI (srt g) i):=by
    have hm:rI (srt g) i∈srt g:=by
     unfold rI
     rw [List.getD_eq_getElem?_getD,List.getElem?_eq_getElem (by rw [a03]; exact hi)]
     exact List.getElem_mem _
    have:=(aP9 g).mem_iff.1 hm
    obtain ⟨k,hk,e⟩:=List.mem_map.1 this
    rw [<-e]
    exact hok k (List.mem_range.1 hk)
   exact bc1 (P:=fun s u=>ab3 u/\∀ X':Nat->Prop,R (sortWorldK enR 3 w b 0 m (srtA g.L.toArray) os) X' E0 s u) hj ⟨rfl,fun _=> .int⟩ ⟨rfl,fun _=> .int⟩ ⟨rfl,fun _=> .int⟩ okd
end Go.Proofs.YthappngbapbkfaaGreat.Rgf
set_option linter.unusedSimpArgs false
set_option linter.unusedVariables false
namespace Go.Proofs.YthappngbapbkfaaGreat.Rgg
open Go.RowKit Sx Num Aff Con Rga Rgl Rgm Rgn Rgb Rgc Rgf
set_option maxRecDepth 100000
def bb6:FSpec:=aR3 32 (γ:=Rg) (fun | [s]=>some ⟨aj0 s,rgD s⟩ | _=>none) (fun g=>[rgS g]) (fun g=>0<g.n/\g.n<=4294967296) (fun _=> .osl 0 0) (fun g=>rowS 0 g.n g.f)
theorem ok_cloneR:aa2 Tryz.prog bb6:=by
 refine aF5 (specs:=[]) (aa9 trivial) (eqs:=[]) (fun _ _ h=>(List.not_mem_nil h).elim) Aff.mixed Tryz.func32 rfl (by kernel_rfl) (fun _ _=>by kernel_rfl) (fun g=>(⟨[],[(1,[.nilc 0])]⟩:Ann)) (fun _=>0) (fun g=>Nat.le_of_ble_eq_true (by kernel_rfl)) ?_
 rintro g ⟨h0,hn⟩
 refine ab5 (B:=let A:=Sx.Ask;let z0:=(IntKind.i64=IntKind.i64);True/\(g.n=(0:Nat)->True/\True/\True/\True/\False)/\True/\True/\True/\True/\A ((0:Nat)+g.n<=(9223372036854775807:Nat)/\((0:Nat)+g.n)*(24:Nat)<=(140737488355328:Nat))/\True/\True/\(True/\True)/\(A ((0:Nat)+g.n=g.n)/\∀ i:Nat,let z1:=(g.f (i-(0:Nat))); i<g.n->((True/\A z0/\A (z1.y=(g.f i).y))/\A z0/\A (z1.x0=(g.f i).x0))/\A z0/\A (z1.x1=(g.f i).x1))/\True) (by kernel_rfl) ?_
 simp only [aa4,aa8,eq_self,true_and,and_true,implies_true,forall_const,decide_eq_true_eq,decide_eq_false_iff_not,ne_eq,Nat.mul_one,Nat.add_zero,Nat.zero_add]
 refine ⟨fun h=>by omega,by omega,fun i _=>?_⟩
 rw [Nat.sub_zero]
 exact ⟨⟨rfl,rfl⟩,rfl⟩
def em (f:Nat->Rn):SV:= .sl 0 3 (fun i=>lst (rnL (f i)))
def bb7:FSpec:=aa5 32 (γ:=Nat->Rn) (fun | [s]=>some (rgD s) | _=>none) (fun f=>[em f]) (fun _=>True) (fun f=>em f)
theorem ok_clone0:aa2 Tryz.prog bb7:=by
 refine aa1 (specs:=[]) (aa9 trivial) (eqs:=[]) (fun _ _ h=>(List.not_mem_nil h).elim) Aff.mixed Tryz.func32 rfl (by kernel_rfl) (fun _ _=>by kernel_rfl) (fun g=>(⟨[],[(1,[.nilc 0])]⟩:Ann)) (fun g=>Nat.le_of_ble_eq_true (by kernel_rfl)) ?_
 rintro g hg
 refine ab5 (B:=let A:=Sx.Ask;let z1:=(IntKind.i64=IntKind.i64);let z0:=(0:Nat);True/\(z0=z0->True/\True/\True/\True/\A (z0=z0))/\True/\True/\True/\True/\A (z0+z0<=(9223372036854775807:Nat)/\(z0+z0)*(24:Nat)<=(140737488355328:Nat))/\True/\True/\A (z0+z0=z0)/\∀ i:Nat,i<z0->((True/\A z1/\A ((g (i-z0)).y=(g i).y))/\A z1/\A ((g (i-z0)).x0=(g i).x0))/\A z1/\A ((g (i-z0)).x1=(g i).x1)) (by kernel_rfl) ?_
 simp only [aa4,aa8,eq_self,true_and,and_true,implies_true,forall_const,decide_eq_true_eq,decide_eq_false_iff_not,ne_eq,Nat.mul_one,Nat.add_zero,Nat.zero_add]
 exact ⟨by decide,fun i hi=>absurd hi (Nat.not_lt_zero _)⟩
def spSort0:FSpec:=aa5 55 (γ:=Nat->Rn) (fun | [s,.fn _ _ _]=>some (rgD s) | _=>none) (fun f=>[em f,.fn 56 0 (lst [])]) (fun _=>True) (fun _=> .tup 0 (lst []))
theorem ok_sort0:aa2 Tryz.prog spSort0:=by
 refine aF6 (enters_of Tryz.func55 (by kernel_rfl) rfl) (fun f _ vals w X hsz hr hX=>?_)
 have h0:=hr 0 (by show 0<2; decide)
 have h1:=hr 1 (by show 1<2; decide)
 obtain ⟨v0,v1,rfl⟩:∃ v0 v1,vals = #[v0,v1]:=by
  have hs:vals.size=2:=hsz
  exact ⟨vals[0],vals[1],by
   apply Array.ext
   ·exact hs
   ·intro i hi1 hi2
    have:i=0\/i=1:=by omega
    rcases this with rfl | rfl<;>rfl⟩
 have h0:R w X E0 (em f) v0:=h0
 have h1:R w X E0 (.fn 56 0 (lst [])) v1:=h1
 have hv1:v1 = .func (.func 56) #[] #[]:=by
  cases h1 with
  | fn hs hr=>rw [Array.size_eq_zero_iff.1 hs]
 subst hv1
 obtain ⟨a,cap,rfl⟩:∃ a cap,v0 = .slice a 0 cap:=by
  unfold em at h0
  cases h0 with
  | sl0=>exact ⟨_,_,rfl⟩
  | sl=>exact ⟨_,_,rfl⟩
 refine (AnyF.slices_SortFunc_none Tryz.a11 a cap (.func (.func 56) #[] #[]) w).mono ?_
 rintro e w' ⟨rfl,rfl⟩
 exact ⟨_,rfl,.tup rfl (fun i hi=>absurd hi (Nat.not_lt_zero _)),Below.refl _ _⟩
def joOk (g:Rg):Prop:=(∀ i,i<g.n->okR (g.f i))/\g.n<=100000000
noncomputable def ak7 (g:Rg):List Rn:=ofSet (mem g.L)
structure JoG where
 i:Nat
 L:List Rn
def joInv (g:Rg):Inv:=⟨JoG,fun s=>JoP (rI (srt g)) g.n s.i s.L,fun s=>⟨[(3,.own 1 0),(10,.osl 0 0),(11,.int .i64 g.n),(12,.int .i64 s.i)],
  [rowS 0 g.n (rI (srt g)),.cells 1 (lst [.osl 2 0]) 111,.row 0 s.L.length 3 (fun i=>lst (rnL (rI s.L i))) 70]⟩,fun s=>g.n-s.i⟩
noncomputable def spJoin1:FSpec:=aa5 38 (γ:=Rg) (fun | [s]=>some ⟨aj0 s,rgD s⟩ | _=>none) (fun g=>[rgS g]) (fun g=>0<g.n/\joOk g) (fun g=>a14 (ak7 g))
theorem ok_join1:aa2 Tryz.prog spJoin1:=by
 refine aa1 (specs:=[bb6,spSort,spAddR]) (aa9 (⟨ok_cloneR,ok_sort,ok_addR,trivial⟩)) (eqs:=[]) (fun _ _ h=>(List.not_mem_nil h).elim) Aff.mixed Tryz.func38 rfl (by kernel_rfl) (fun _ _=>by kernel_rfl) (fun g=>(⟨[(5,.inv (joInv g))],[(4,[.ownC 1 0 70 3])]⟩:Ann)) (fun g=>Nat.le_of_ble_eq_true (by kernel_rfl)) ?_
 rintro g hg
 refine ab5 (B:=let A:=Sx.Ask;let z9:=((0:Nat)=(0:Nat));let z0:=(IntKind.i64=IntKind.i64);let q0:=fun p:Int=>A z0/\A (p=p);let z8:=(q0 ((↑g.n:Int)));let z3:=(A (g.n=g.n)/\∀ i:Nat,i<g.n->((True/\q0 ((g.f i).y))/\q0 ((g.f i).x0))/\q0 ((g.f i).x1));let z2:=(A (g.n=g.n)/\∀ i:Nat,let z5:=(Rga.rI (Rgf.srt g) i); i<g.n->((True/\q0 z5.y)/\q0 z5.x0)/\q0 z5.x1);True/\True/\((z3/\True)/\A ((0:Nat)<g.n/\g.n<=(4294967296:Nat)))/\True/\True/\((True/\(True/\(A ((56:Nat)=(56:Go.FuncId))/\True)/\True)/\z3/\True)/\A ((∀ i:Nat,i<g.n->Rga.okR (g.f i))/\g.n<=(4294967296:Nat)))/\True/\True/\True/\True/\(∃ g_1:JoG,A ((joInv g).pre g_1)/\(A z9/\True/\z8/\(A z0/\A ((0:Int)=(↑g_1.i:Int)))/\True)/\z2/\(True/\True)/\(A ((0:Nat)=g_1.L.length)/\∀ i:Nat,i<g_1.L.length->((True/\False)/\False)/\False)/\True)/\∀ g_1:JoG,let z6:=(↑g_1.i:Int);let z1:=(Rga.rI (Rgf.srt g) z6.toNat);let z4:=(Rga.AdG.mk g_1.L.length (Rga.rI g_1.L) z1); (joInv g).pre g_1->True/\Sx.Br (decide (z6<(↑g.n:Int))) (A ((0:Int)<=z6/\z6<(↑g.n:Int))/\A (z6.toNat<g.n)/\True/\True/\True/\True/\True/\True/\True/\True/\((True/\(A z9/\(q0 z1.y)/\(q0 z1.x0)/\(q0 z1.x1)/\True)/\(True/\True)/\(A (g_1.L.length=g_1.L.length)/\∀ i:Nat,let z7:=(Rga.rI g_1.L i); i<g_1.L.length->((True/\q0 z7.y)/\q0 z7.x0)/\q0 z7.x1)/\True)/\A (g_1.L.length<=(4294967296:Nat)))/\A ((-9223372036854775808:Int)<=z6+(1:Int)/\z6+(1:Int)<=(9223372036854775807:Int))/\True/\∃ (g':JoG),A ((joInv g).pre g')/\((A z9/\True/\z8/\(A z0/\A (z6+(1:Int)=(↑g'.i:Int)))/\True)/\z2/\(True/\True)/\(A (z4.L.length=g'.L.length)/\∀ i:Nat,i<g'.L.length->((True/\A z0/\A ((Rga.rI z4.L i).y=(Rga.rI g'.L i).y))/\A z0/\A ((Rga.rI z4.L i).x0=(Rga.rI g'.L i).x0))/\A z0/\A ((Rga.rI z4.L i).x1=(Rga.rI g'.L i).x1))/\True)/\A ((joInv g).meas g'<(joInv g).meas g_1)) (True/\True/\True/\True/\A (g_1.L.length=(ak7 g).length)/\∀ i:Nat,let z10:=(Rga.rI (ak7 g) i); i<(ak7 g).length->((True/\A z0/\A ((Rga.rI g_1.L i).y=z10.y))/\A z0/\A ((Rga.rI g_1.L i).x0=z10.x0))/\A z0/\A ((Rga.rI g_1.L i).x1=z10.x1))) (by kernel_rfl) ?_
 simp only [aa4,aa8,eq_self,true_and,and_true,implies_true,forall_const,decide_eq_true_eq,decide_eq_false_iff_not,ne_eq,Nat.mul_one,Nat.add_zero,Nat.zero_add]
 obtain ⟨h0,hok,hn⟩:=hg
 have hmem:∀ k,k<g.n->rI (srt g) k∈srt g:=fun k hk=>by
  unfold rI
  rw [List.getD_eq_getElem?_getD,List.getElem?_eq_getElem (by rw [a03]; exact hk)]
  exact List.getElem_mem _
 have oks:∀ k,k<g.n->okR (rI (srt g) k):=fun k hk=>by
  obtain ⟨j,hj,e⟩:=List.mem_map.1 ((aP9 g).mem_iff.1 (hmem k hk))
  rw [<-e]
  exact hok j (List.mem_range.1 hj)
 have srt':∀ j k,j<k->k<g.n->le0 (rI (srt g) j) (rI (srt g) k):=fun j k hjk hk=>by
  have h:=srt_sorted g hjk hk
  rw [a36] at h
  obtain ⟨⟨⟨a1,a2⟩,⟨a3,a4⟩,_⟩,_⟩:=oks j (by omega)
  obtain ⟨⟨⟨b1,b2⟩,⟨b3,b4⟩,_⟩,_⟩:=oks k hk
  rw [a95 a1 (by omega),a95 a3 a4,a95 b1 (by omega),a95 b3 b4] at h
  unfold le0
  omega
 refine ⟨⟨h0,by omega⟩,⟨hok,by omega⟩,⟨⟨0,[]⟩,jo_start _ _,rfl,rfl,fun k hk=>absurd hk (Nat.not_lt_zero _)⟩,fun s P=>⟨fun hlt=>?_,fun hge=>?_⟩⟩
 ·have P:JoP (rI (srt g)) g.n s.i s.L:=P
  have hlt:s.i<g.n:=by omega
  have hl:=bnd P.hL
  have z:((s.i:Int)).toNat=s.i:=rfl
  rw [z,addL]
  refine ⟨by omega,hlt,hl,by omega,⟨s.i+1,addR s.L (rI (srt g) s.i)⟩,jo_step oks srt' P hlt,⟨rfl,rfl,fun k _=>⟨⟨rfl,rfl⟩,rfl⟩⟩,?_⟩
  show g.n-(s.i+1)<g.n-s.i
  omega
 ·have P:JoP (rI (srt g)) g.n s.i s.L:=P
  have hi:=P.hi
  have e:s.i=g.n:=by omega
  have hm:=P.hm
  rw [e] at hm
  have es:Lf (rI (srt g)) g.n=srt g:=by rw [<-a03 g]; exact Lf_rI _
  have eo:ak7 g=s.L:=ofSet_eq P.hL (fun y x=>by rw [hm,es]; exact mem_congr (fun r=>(aP9 g).mem_iff) y x)
  rw [eo]
  exact ⟨rfl,fun k _=>⟨⟨rfl,rfl⟩,rfl⟩⟩
def spJoin0:FSpec:=aa5 38 (γ:=Nat->Rn) (fun | [s]=>some (rgD s) | _=>none) (fun f=>[em f]) (fun _=>True) (fun _=>em (fun _=>⟨0,0,0⟩))
theorem ok_join0:aa2 Tryz.prog spJoin0:=by
 refine aa1 (specs:=[bb7,spSort0]) (aa9 (⟨ok_clone0,ok_sort0,trivial⟩)) (eqs:=[]) (fun _ _ h=>(List.not_mem_nil h).elim) Aff.mixed Tryz.func38 rfl (by kernel_rfl) (fun _ _=>by kernel_rfl) (fun g=>(⟨[(5,.rounds 1)],[(4,[.ownC 0 0 70 3])]⟩:Ann)) (fun g=>Nat.le_of_ble_eq_true (by kernel_rfl)) ?_
 rintro g hg
 refine ab5 (B:=let A:=Sx.Ask;let z1:=(IntKind.i64=IntKind.i64);let q1:=fun p:Int=>A z1/\A (p=p);let z0:=(A ((0:Nat)=(0:Nat))/\∀ i:Nat,i<(0:Nat)->((True/\q1 ((g i).y))/\q1 ((g i).x0))/\q1 ((g i).x1));True/\True/\((z0/\True)/\A True)/\True/\True/\((z0/\(A ((56:Nat)=(56:Go.FuncId))/\True)/\True)/\A True)/\True/\True/\True/\True/\True/\True/\True/\True/\True/\A ((0:Nat)=(0:Nat))/\∀ i:Nat,i<(0:Nat)->((True/\False)/\False)/\False) (by kernel_rfl) ?_
 simp only [aa4,aa8,eq_self,true_and,and_true,implies_true,forall_const,decide_eq_true_eq,decide_eq_false_iff_not,ne_eq,Nat.mul_one,Nat.add_zero,Nat.zero_add]
 exact fun i hi=>absurd hi (Nat.not_lt_zero _)
theorem ar7 {P:Program}{f:FuncId}{γ γ0:Type}{dec:List SV->Option γ}{args:γ->List SV}{pre pre1:γ->Prop}{res:γ->SV}{dec0:List SV->Option γ0}{args0:γ0->List SV}{pre0:γ0->Prop}{res0:γ0->SV}
  (h1:aa2 P (aa5 f dec args pre1 res)) (h0:aa2 P (aa5 f dec0 args0 pre0 res0))
  (hc:∀ g,pre g->pre1 g\/∃ g0,dec0 (args0 g0)=some g0/\aC0 (args0 g0)/\(args0 g0).all (ac3 6)=true/\pre0 g0/\args g=args0 g0/\res g=res0 g0):aa2 P (aa5 f dec args pre res):=by
 refine ⟨h1.1,fun args H HF nm y _ _ h=>h,fun l H nm y hrun hp w0 X0 E w hrep hf vals ha=>?_⟩
 simp only [aa5] at hrun
 split at hrun
 case h_2=>cases hrun
 rename_i hpu
 split at hrun
 case h_2=>cases hrun
 rename_i g hdec
 cases hrun
 obtain ⟨hle,⟨hpre⟩⟩:=hp
 rcases hc g hpre with h | ⟨g0,e1,e2,e3,e4,e5,e6⟩
 ·refine h1.2.2 l H nm ⟨aa5.leArgs l (args g)/\Sx.Ask (pre1 g),res g,.keep⟩ ?_ ⟨hle,⟨h⟩⟩ w0 X0 E w hrep hf vals ha
  simp only [aa5,hpu,hdec]
 ·obtain ⟨hll,hle⟩:=al9 hle
  have hr:=az5 ha hpu
  have hsz:=ha.1
  have h:=h0.2.2 (args0 g0) H nm ⟨aa5.leArgs (args0 g0) (args0 g0)/\Sx.Ask (pre0 g0),res0 g0,.keep⟩ (by simp only [aa5,e3,e1]) ⟨aq3 e2,⟨e4⟩⟩ w0 X0 E w hrep hf vals
   ⟨by rw [<-e5]; omega,fun i hi=>by
    rw [<-e5] at hi ⊢
    exact up (a15 (fun _ hb=>hb) (hle i hi) (hr i (by omega)))⟩
  rw [e6]
  exact h
theorem ofSet_nil (f:Nat->Rn):ak7 ⟨0,f⟩=[]:=ofSet_eq aP3 (fun _ _=>rfl)
noncomputable def spJoin:FSpec:=aa5 38 (γ:=Rg) (fun | [s]=>some ⟨aj0 s,rgD s⟩ | _=>none) (fun g=>[rgS g]) joOk (fun g=>a14 (ak7 g))
theorem ok_join:aa2 Tryz.prog spJoin:=by
 refine ar7 ok_join1 ok_join0 (fun g hg=>?_)
 rcases Nat.eq_zero_or_pos g.n with h | h
 ·obtain ⟨n,f⟩:=g
  have h:n=0:=h
  subst h
  exact .inr ⟨f,rfl,⟨fun i j=>as5 (l:=rnL (f i)) ⟨trivial,trivial,trivial,trivial⟩ j,trivial⟩,rfl,trivial,rfl,by rw [ofSet_nil]; rfl⟩
 ·exact .inl ⟨h,hg⟩
end Go.Proofs.YthappngbapbkfaaGreat.Rgg
set_option linter.unusedSimpArgs false
set_option linter.unusedVariables false
namespace Go.Proofs.YthappngbapbkfaaGreat.Rgh
open Go.RowKit Sx Num Aff Con Rga Rgl Rgm Rgn Rgb Rgc Rgf Rgg
set_option maxRecDepth 100000
structure PoG where
 n:Nat
 f:Nat->Pt
def poS (g:PoG):SV:= .sl g.n 2 (fun i=>lst (ptL (g.f i)))
def poD:SV->Nat->Pt
 | .sl _ _ f=>fun i=>⟨Sx.intOf (f i 0),Sx.intOf (f i 1)⟩
 | _=>fun _=>⟨0,0⟩
def ptR (p:Pt):Rn:=⟨p.y,p.x,p.x+1⟩
def okPt (p:Pt):Prop:=(-8192<=p.x/\p.x<8192)/\ -8192<=p.y/\p.y<8192
theorem okR_pt {p:Pt}(h:okPt p):okR (ptR p):=by
 obtain ⟨⟨h1,h2⟩,h3,h4⟩:=h
 refine ⟨⟨⟨h3,h4⟩,⟨h1,?_⟩,?_,?_⟩,?_⟩
 ·show p.x<=8192; omega
 ·show -8192<=p.x+1; omega
 ·show p.x+1<=8192; omega
 ·show p.x<p.x+1; omega
def PoG.r (g:PoG):Rg:=⟨g.n,fun i=>ptR (g.f i)⟩
def ofInv (g:PoG):Inv:=⟨Nat,fun i=>i<=g.n,fun i=>⟨[(4,.osl 0 0),(10,poS g),(11,.int .i64 g.n),(12,.int .i64 i)],[rowS 0 i g.r.f]⟩,fun i=>g.n-i⟩
noncomputable def spRof:FSpec:=aa5 21 (γ:=PoG) (fun | [s]=>some ⟨aj0 s,poD s⟩ | _=>none) (fun g=>[poS g]) (fun g=>(∀ i,i<g.n->okPt (g.f i))/\g.n<=1000000) (fun g=>okP (a14 (ak7 g.r)))
theorem ok_rof:aa2 Tryz.prog spRof:=by
 refine aa1 (specs:=[av0,giv spJoin]) (aa9 (⟨aB9,giv_ok ok_join,trivial⟩)) (eqs:=[]) (fun _ _ h=>(List.not_mem_nil h).elim) Aff.mixed Tryz.func21 rfl (by kernel_rfl) (fun _ _=>by kernel_rfl) (fun g=>(⟨[(3,.inv (ofInv g))],[]⟩:Ann)) (fun g=>Nat.le_of_ble_eq_true (by kernel_rfl)) ?_
 rintro g ⟨hok,hn⟩
 refine ab5 (B:=let A:=Sx.Ask;let z9:=(9223372036854775807:Int);let z7:=(1:Int);let z6:=(0:Int);let z5:=(↑g.n:Int);let z4:=(Rgg.ak7 g.r);let z11:=(True/\A (z4.length=(0:Nat)));let z0:=(IntKind.i64=IntKind.i64);let q0:=fun p:Int=>A z0/\A (p=p);let z3:=(A (g.n=g.n)/\∀ i:Nat,i<g.n->(True/\q0 ((g.f i).x))/\q0 ((g.f i).y));True/\True/\True/\True/\A (z6<=z6/\z6<=z5/\(↑(24:Nat):Int)*z5<=(140737488355328:Int)/\z5<=z9)/\True/\True/\True/\True/\(∃ g_1:Nat,A ((ofInv g).pre g_1)/\(True/\z3/\(q0 z5)/\(A z0/\A (z6=(↑g_1:Int)))/\True)/\(A (Int.toNat z6=g_1)/\∀ i:Nat,i<g_1->((True/\A z0/\A (z6=(g.f i).y))/\A z0/\A (z6=(g.f i).x))/\A z0/\A (z6=(g.f i).x+z7))/\True)/\∀ g_1:Nat,let z8:=(↑g_1:Int);let z2:=(g.f z8.toNat);let z1:=(Rga.Rg.mk g_1 fun (i:Nat)=>Rga.Rn.mk (g.f i).y (g.f i).x ((g.f i).x+z7)); (ofInv g).pre g_1->True/\Sx.Br (decide (z8<z5)) (A (z6<=z8/\z8<z5)/\True/\True/\True/\True/\True/\(((q0 z2.x)/\True)/\A True)/\True/\True/\Sx.Br (!(decide ((-8192:Int)<=z2.x)&&decide (z2.x<(8192:Int)))) (True/\True/\True/\True/\z11/\A z0/\A ((3:Int)=z6)) (True/\True/\(((q0 z2.y)/\True)/\A True)/\True/\True/\Sx.Br (!(decide ((-8192:Int)<=z2.y)&&decide (z2.y<(8192:Int)))) (True/\True/\True/\z11/\A z0/\A ((3:Int)=z6)) (True/\True/\True/\True/\True/\True/\True/\A ((-9223372036854775808:Int)<=z2.x+z7/\z2.x+z7<=z9)/\True/\True/\A (g_1+(1:Nat)<=(9223372036854775807:Nat)/\(g_1+(1:Nat))*(24:Nat)<=(140737488355328:Nat))/\True/\A ((-9223372036854775808:Int)<=z8+z7/\z8+z7<=z9)/\True/\∃ (g':Nat),A ((ofInv g).pre g')/\((True/\z3/\(q0 z5)/\(A z0/\A (z8+z7=(↑g':Int)))/\True)/\(A (g_1+(1:Nat)=g')/\∀ i:Nat,i<g'->((True/\A z0/\A ((bif decide (i<g_1) then (g.f i).y else z2.y)=(g.f i).y))/\A z0/\A ((bif decide (i<g_1) then (g.f i).x else z2.x)=(g.f i).x))/\A z0/\A ((bif decide (i<g_1) then (g.f i).x+z7 else z2.x+z7)=(g.f i).x+z7))/\True)/\A ((ofInv g).meas g'<(ofInv g).meas g_1)))) (True/\(((A (g_1=g_1)/\∀ i:Nat,i<g_1->((True/\q0 ((g.f i).y))/\q0 ((g.f i).x))/\q0 ((g.f i).x+z7))/\True)/\A (Rgg.joOk z1))/\True/\True/\True/\(True/\A ((Rgg.ak7 z1).length=z4.length)/\∀ i:Nat,let z10:=(Rga.rI (Rgg.ak7 z1) i); i<z4.length->((True/\A z0/\A (z10.y=(Rga.rI z4 i).y))/\A z0/\A (z10.x0=(Rga.rI z4 i).x0))/\A z0/\A (z10.x1=(Rga.rI z4 i).x1))/\q0 z6)) (by kernel_rfl) ?_
 simp only [aa4,aa8,eq_self,true_and,and_true,implies_true,forall_const,decide_eq_true_eq,decide_eq_false_iff_not,ne_eq,Nat.mul_one,Nat.add_zero,Nat.zero_add]
 refine ⟨by omega,⟨0,Nat.zero_le _,rfl,rfl,fun k hk=>absurd hk (Nat.not_lt_zero _)⟩,fun i hi=>⟨fun hlt=>?_,fun hge=>?_⟩⟩
 ·have hi:i<=g.n:=hi
  have hlt:i<g.n:=by omega
  have z:((i:Int)).toNat=i:=rfl
  obtain ⟨⟨h1,h2⟩,h3,h4⟩:=hok i hlt
  rw [z,decide_eq_true h1,decide_eq_true h2,decide_eq_true h3,decide_eq_true h4]
  refine ⟨by omega,fun h=>absurd h (by decide),fun _=>⟨fun h=>absurd h (by decide),fun _=>⟨by omega,by omega,by omega,i+1,hlt,⟨rfl,rfl,fun k hk=>?_⟩,?_⟩⟩⟩
  ·by_cases hki:k<i
   ·rw [decide_eq_true hki]; exact ⟨⟨rfl,rfl⟩,rfl⟩
   ·rw [decide_eq_false hki,show k=i by omega]; exact ⟨⟨rfl,rfl⟩,rfl⟩
  ·show g.n-(i+1)<g.n-i
   omega
 ·have hi:i<=g.n:=hi
  have e:i=g.n:=by omega
  subst e
  exact ⟨⟨fun k hk=>okR_pt (hok k hk),Nat.le_trans hn (by decide)⟩,rfl,fun k _=>⟨⟨rfl,rfl⟩,rfl⟩⟩
structure NrG where
 g:Rg
 m:Int
def NrG.x (h:NrG) (i:Nat):Int:=cutI (h.g.f i).x0 (-h.m) h.m
def NrG.y (h:NrG) (i:Nat):Int:=cutI (h.g.f i).y (-h.m) h.m
def NrG.w (h:NrG) (i:Nat):Int:=cutI (h.g.f i).x1 1 12
def NrG.pt (h:NrG) (i k:Nat):Pt:=⟨if h.x i+k<h.m then h.x i+k else h.m,h.y i⟩
def NrG.in' (h:NrG) (i k:Nat):List Pt:=(List.range k).map (h.pt i)
def NrG.L (h:NrG):Nat->List Pt
 | 0=>[]
 | i+1=>h.L i++h.in' i (h.w i).toNat
def pI (L:List Pt) (k:Nat):Pt:=L.getD k ⟨0,0⟩
def NrG.ok (h:NrG):Prop:=(1<=h.m/\h.m<=1000)/\h.g.n<=9223372036854775807
def NrG.o (h:NrG):PoG:=⟨(h.L (min h.g.n 30)).length,pI (h.L (min h.g.n 30))⟩
def poR (L:List Pt):SO:= .row 0 L.length 2 (fun k=>lst (ptL (pI L k))) 39
theorem aZ4 (x:Int) {lo hi:Int}(h:lo<=hi):lo<=cutI x lo hi/\cutI x lo hi<=hi:=ao8 x lo hi h
theorem pI_app (L:List Pt) (p:Pt) (i:Nat) (h:i<L.length+1):pI (L++[p]) i=if i<L.length then pI L i else p:=by
 unfold pI
 by_cases hi:i<L.length
 ·rw [if_pos hi,List.getD_eq_getElem?_getD,List.getElem?_append_left hi,List.getD_eq_getElem?_getD]
 ·rw [if_neg hi,show i=L.length by omega]
  simp
theorem pI_mem {L:List Pt}{i:Nat}(h:i<L.length):pI L i∈L:=by
 unfold pI
 rw [List.getD_eq_getElem?_getD,List.getElem?_eq_getElem h]
 exact List.getElem_mem _
theorem NrG.in_zero (h:NrG) (i:Nat):h.in' i 0=[]:=rfl
theorem NrG.in_succ (h:NrG) (i k:Nat):h.in' i (k+1)=h.in' i k++[h.pt i k]:=by
 unfold NrG.in'
 rw [List.range_succ,List.map_append]
 rfl
theorem NrG.in_len (h:NrG) (i k:Nat):(h.in' i k).length=k:=by simp [NrG.in']
theorem NrG.L_len (h:NrG):∀ i:Nat,(h.L i).length<=12*i
 | 0=>Nat.le_refl _
 | i+1=>by
  have h1:=h.L_len i
  have h2:1<=h.w i/\h.w i<=12:=aZ4 (h.g.f i).x1 (by decide)
  show (h.L i++h.in' i (h.w i).toNat).length<=_
  rw [List.length_append,h.in_len]
  omega
theorem NrG.L_ok (h:NrG) (hm:1<=h.m):∀ i:Nat,∀ p∈h.L i,(-h.m<=p.x/\p.x<=h.m)/\ -h.m<=p.y/\p.y<=h.m
 | 0,p,hp=>(List.not_mem_nil hp).elim
 | i+1,p,hp=>by
  rcases List.mem_append.1 (show p∈h.L i++h.in' i (h.w i).toNat from hp) with hp | hp
  ·exact h.L_ok hm i p hp
  ·obtain ⟨k,_,rfl⟩:=List.mem_map.1 hp
   have hx : -h.m<=h.x i/\h.x i<=h.m:=aZ4 (h.g.f i).x0 (by omega)
   have hy : -h.m<=h.y i/\h.y i<=h.m:=aZ4 (h.g.f i).y (by omega)
   refine ⟨?_,hy⟩
   show -h.m<=(if h.x i+k<h.m then h.x i+k else h.m)/\(if h.x i+k<h.m then h.x i+k else h.m)<=h.m
   split<;>omega
def nrT (h:NrG) (i:Nat):List (Nat×SV):=[(0,rgS h.g),(1,.int .i64 h.m),(5,.osl 0 0),(6,.int .i64 i)]
def nrOut (h:NrG):Inv:=⟨Nat,fun i=>i<=30/\i<=h.g.n,fun i=>⟨nrT h i,[poR (h.L i)]⟩,fun i=>30-i⟩
def nrIn (h:NrG) (i:Nat):Inv:=⟨Nat,fun k=>k<=(h.w i).toNat,fun k=>⟨[(7,.int .i64 (h.x i)),(8,.int .i64 (h.y i)),(45,.int .i64 (h.w i)),(46,.int .i64 k)]++nrT h i,[poR (h.L i++h.in' i k)]⟩,fun k=>(h.w i).toNat-k⟩
noncomputable def au6:FSpec:=aa5 8 (γ:=NrG) (fun | [s,.int _ m]=>some ⟨⟨aj0 s,rgD s⟩,m⟩ | _=>none) (fun h=>[rgS h.g,.int .i64 h.m]) NrG.ok (fun h=>a14 (ak7 h.o.r))
theorem as4:aa2 Tryz.prog au6:=by
 refine aa1 (specs:=[spCut,giv spRof]) (aa9 (⟨ok_cut,giv_ok ok_rof,trivial⟩)) (eqs:=[]) (fun _ _ h=>(List.not_mem_nil h).elim) Aff.mixed Tryz.func8 rfl (by kernel_rfl) (fun _ _=>by kernel_rfl) (fun g=>(⟨[(3,.nest (nrOut g) (fun i=>[(7,.inv (nrIn g i))]))],[(2,[.own 5 39 2])]⟩:Ann)) (fun g=>Nat.le_of_ble_eq_true (by kernel_rfl)) ?_
 rintro h hh
 refine ab5 (B:=let T8:=fun p:Prop=>True/\True/\True/\True/\True/\True/\True/\True/\p;let A:=Sx.Ask;let z16:=(1:Int);let z13:=(4611686018427387903:Int);let z12:=(0:Int);let z11:=(9223372036854775807:Int);let z10:=(-9223372036854775808:Int);let z8:=(Rgg.ak7 h.o.r);let z4:=(((-2305843009213693952:Int)<=z12-h.m/\z12-h.m<=h.m)/\h.m<=z13/\h.m-(z12-h.m)<=z13);let z0:=(IntKind.i64=IntKind.i64);let q0:=fun p:Int=>A z0/\A (p=p);let z19:=(q0 (z12-h.m));let z7:=(q0 h.m);let z1:=(A (h.g.n=h.g.n)/\∀ i:Nat,i<h.g.n->((True/\q0 ((h.g.f i).y))/\q0 ((h.g.f i).x0))/\q0 ((h.g.f i).x1));True/\True/\True/\(∃ g:Nat,A ((nrOut h).pre g)/\(z1/\z7/\True/\(A z0/\A (z12=(↑g:Int)))/\True)/\(A ((0:Nat)=(h.L g).length)/\∀ i:Nat,i<(h.L g).length->(True/\False)/\False)/\True)/\∀ g:Nat,let z14:=(↑g:Int);let z9:=(z12<=z14/\z14<(↑h.g.n:Int));let z6:=(h.g.f z14.toNat);let z3:=(((A ((h.L g).length=(h.L g).length)/\∀ i:Nat,i<(h.L g).length->(True/\q0 ((pI (h.L g) i).x))/\q0 ((pI (h.L g) i).y))/\True)/\A ((∀ i:Nat,i<(h.L g).length->okPt (pI (h.L g) i))/\(h.L g).length<=(1000000:Nat)));let z2:=(Rgg.ak7 (PoG.mk (h.L g).length (pI (h.L g))).r); (nrOut h).pre g->True/\True/\True/\True/\True/\Sx.Br (decide (z14<(↑h.g.n:Int))) (True/\True/\True/\Sx.Br (decide (z14<(30:Int))) (True/\True/\A z9/\True/\True/\True/\A (z10<=z12-h.m/\z12-h.m<=z11)/\True/\(((q0 z6.x0)/\z19/\z7/\True)/\A z4)/\True/\True/\A z9/\True/\True/\True/\A (z10<=z12-h.m/\z12-h.m<=z11)/\True/\(((q0 z6.y)/\z19/\z7/\True)/\A z4)/\True/\True/\True/\True/\A z9/\True/\True/\(((q0 z6.x1)/\(q0 z16)/\(q0 ((12:Int)))/\True)/\A (((-2305843009213693952:Int)<=z16/\z16<=(12:Int))/\(12:Int)<=z13/\(12:Int)-z16<=z13))/\True/\(∃ g_1:Nat,let z17:=(h.L g++h.in' g g_1); A ((nrIn h g).pre g_1)/\((A z0/\A (cutI z6.x0 (z12-h.m) h.m=h.x g))/\(A z0/\A (cutI z6.y (z12-h.m) h.m=h.y g))/\(A z0/\A (cutI z6.x1 z16 (12:Int)=h.w g))/\(A z0/\A (z12=(↑g_1:Int)))/\z1/\z7/\True/\(q0 z14)/\True)/\(A ((h.L g).length=z17.length)/\∀ i:Nat,i<z17.length->(True/\A z0/\A ((pI (h.L g) i).x=(pI z17 i).x))/\A z0/\A ((pI (h.L g) i).y=(pI z17 i).y))/\True)/\∀ g_1:Nat,let z15:=(↑g_1:Int);let z5:=(h.L g++h.in' g g_1); (nrIn h g).pre g_1->True/\Sx.Br (decide (z15<h.w g)) (True/\True/\True/\True/\True/\True/\A (z10<=h.x g+z15/\h.x g+z15<=z11)/\True/\True/\True/\True/\A (z5.length+(1:Nat)<=(9223372036854775807:Nat)/\(z5.length+(1:Nat))*(16:Nat)<=(140737488355328:Nat))/\True/\A (z10<=z15+z16/\z15+z16<=z11)/\True/\∃ (g':Nat),let z18:=(h.L g++h.in' g g'); A ((nrIn h g).pre g')/\(((q0 (h.x g))/\(q0 (h.y g))/\(q0 (h.w g))/\(A z0/\A (z15+z16=(↑g':Int)))/\z1/\z7/\True/\(q0 z14)/\True)/\(A (z5.length+(1:Nat)=z18.length)/\∀ i:Nat,i<z18.length->(True/\A z0/\A ((bif decide (i<z5.length) then (pI z5 i).x else if h.x g+z15<h.m then h.x g+z15 else h.m)=(pI z18 i).x))/\A z0/\A ((bif decide (i<z5.length) then (pI z5 i).y else h.y g)=(pI z18 i).y))/\True)/\A ((nrIn h g).meas g'<(nrIn h g).meas g_1)) (True/\A (z10<=z14+z16/\z14+z16<=z11)/\True/\∃ (g':Nat),A ((nrOut h).pre g')/\((z1/\z7/\True/\(A z0/\A (z14+z16=(↑g':Int)))/\True)/\(A (z5.length=(h.L g').length)/\∀ i:Nat,i<(h.L g').length->(True/\A z0/\A ((pI z5 i).x=(pI (h.L g') i).x))/\A z0/\A ((pI z5 i).y=(pI (h.L g') i).y))/\True)/\A ((nrOut h).meas g'<(nrOut h).meas g))) (True/\z3/\T8 (A (z2.length=z8.length)/\∀ i:Nat,i<z8.length->((True/\A z0/\A ((Rga.rI z2 i).y=(Rga.rI z8 i).y))/\A z0/\A ((Rga.rI z2 i).x0=(Rga.rI z8 i).x0))/\A z0/\A ((Rga.rI z2 i).x1=(Rga.rI z8 i).x1)))) (True/\True/\z3/\T8 (A (z2.length=z8.length)/\∀ i:Nat,i<z8.length->((True/\A z0/\A ((Rga.rI z2 i).y=(Rga.rI z8 i).y))/\A z0/\A ((Rga.rI z2 i).x0=(Rga.rI z8 i).x0))/\A z0/\A ((Rga.rI z2 i).x1=(Rga.rI z8 i).x1)))) (by kernel_rfl) ?_
 simp only [aa4,aa8,eq_self,true_and,and_true,implies_true,forall_const,decide_eq_true_eq,decide_eq_false_iff_not,ne_eq,Nat.mul_one,Nat.add_zero,Nat.zero_add]
 obtain ⟨⟨m1,m2⟩,hn⟩:=hh
 have e0:0-h.m = -h.m:=by omega
 have fin:∀ i,(i<=30/\i<=h.g.n)->(¬ ((i:Nat):Int)<30\/¬ ((i:Nat):Int)<(h.g.n:Int))->((∀ k,k<(h.L i).length->okPt (pI (h.L i) k))/\(h.L i).length<=1000000)/\
   (ak7 (PoG.r ⟨(h.L i).length,pI (h.L i)⟩)).length=(ak7 h.o.r).length/\∀ k,k<(ak7 h.o.r).length->((rI (ak7 (PoG.r ⟨(h.L i).length,pI (h.L i)⟩)) k).y=(rI (ak7 h.o.r) k).y/\(rI (ak7 (PoG.r ⟨(h.L i).length,pI (h.L i)⟩)) k).x0=(rI (ak7 h.o.r) k).x0)/\
   (rI (ak7 (PoG.r ⟨(h.L i).length,pI (h.L i)⟩)) k).x1=(rI (ak7 h.o.r) k).x1:=fun i hi hc=>by
  have e:i=min h.g.n 30:=by omega
  have hl:=h.L_len i
  refine ⟨⟨fun k hk=>?_,by omega⟩,?_⟩
  ·have:=h.L_ok m1 i _ (pI_mem hk)
   unfold okPt
   omega
  ·rw [e]
   exact ⟨rfl,fun k _=>⟨⟨rfl,rfl⟩,rfl⟩⟩
 refine ⟨⟨0,⟨by omega,by omega⟩,rfl,rfl,fun k hk=>absurd hk (Nat.not_lt_zero _)⟩,fun i hi=>?_⟩
 have hi:i<=30/\i<=h.g.n:=hi
 refine ⟨fun hlt=>⟨fun h30=>?_,fun h30=>fin i hi (.inl h30)⟩,fun hge=>fin i hi (.inr hge)⟩
 clear fin
 have z:((i:Int)).toNat=i:=rfl
 have hx:=aZ4 (h.g.f i).x0 (show -h.m<=h.m by omega)
 have hw:=aZ4 (h.g.f i).x1 (show (1:Int)<=12 by omega)
 have hx : -h.m<=h.x i/\h.x i<=h.m:=hx
 have hw:1<=h.w i/\h.w i<=12:=hw
 have hl:=h.L_len i
 rw [e0,z]
 have q:(0:Int)<=i/\(i:Int)<h.g.n:=by omega
 refine ⟨q,by omega,by omega,q,by omega,by omega,q,by omega,⟨0,Nat.zero_le _,⟨rfl,rfl,rfl,rfl⟩,by rw [h.in_zero,List.append_nil]; exact ⟨rfl,fun k _=>⟨rfl,rfl⟩⟩⟩,fun k hk=>?_⟩
 have hk:k<=(h.w i).toNat:=hk
 have hkl:(h.L i++h.in' i k).length<=400:=by rw [List.length_append,h.in_len]; omega
 refine ⟨fun hkw=>⟨by omega,by omega,by omega,k+1,(by omega:k+1<=(h.w i).toNat),⟨rfl,?_,fun r hr=>?_⟩,?_⟩,fun hkw=>⟨by omega,i+1,(by omega:i+1<=30/\i+1<=h.g.n),⟨rfl,?_⟩,?_⟩⟩
 ·rw [h.in_succ,<-List.append_assoc,List.length_append (bs:=[_])]; rfl
 ·rw [h.in_succ,<-List.append_assoc] at hr ⊢
  rw [List.length_append (bs:=[_])] at hr
  have hr:r<(h.L i++h.in' i k).length+1:=hr
  rw [pI_app _ _ _ hr]
  by_cases hc:r<(h.L i++h.in' i k).length
  ·rw [decide_eq_true hc,if_pos hc]; exact ⟨rfl,rfl⟩
  ·rw [decide_eq_false hc,if_neg hc]; exact ⟨rfl,rfl⟩
 ·show (h.w i).toNat-(k+1)<(h.w i).toNat-k
  omega
 ·have e:k=(h.w i).toNat:=by omega
  subst e
  exact ⟨rfl,fun r _=>⟨rfl,rfl⟩⟩
 ·show 30-(i+1)<30-i
  omega
end Go.Proofs.YthappngbapbkfaaGreat.Rgh
set_option linter.unusedSimpArgs false
set_option linter.unusedVariables false
namespace Go.Proofs.YthappngbapbkfaaGreat.Lot
open Go.RowKit Sx Num Aff Afi Img Imh Imp Imq Rga Blend Ble Lsg Lta Lrd Lri Luc Lck Lgr Lcs Lst Lch Lcl Lgp Lsc Cmp Lpm Lpa Lpr Lbt Lpn Lpc Lpd Lpe Lpf Lrw Lto Lat Lun Lsh Lli Ltp Rgl Rgn
set_option maxRecDepth 100000
structure IsG where
 n:Nat
 f:Nat->It
def isS (g:IsG):SV:= .sl g.n 34 (fun i=>lst (itL (g.f i)))
def isD:SV->IsG
 | .sl n _ f=>⟨n,fun i=>itD (f i)⟩
 | _=>⟨0,fun _=>zIt⟩
def isR (g:IsG):SO:= .row 0 g.n 34 (fun i=>lst (itL (g.f i))) 50
def spClIt:FSpec:=aR3 11 (γ:=IsG) (fun | [s]=>some (isD s) | _=>none) (fun g=>[isS g]) (fun g=>g.n<=4294967296) (fun _=> .osl 0 0) isR
theorem ok_clIt:aa2 Tryz.prog spClIt:=by
 refine aF5 (specs:=[]) (aa9 trivial) (eqs:=[]) (fun _ _ h=>(List.not_mem_nil h).elim) Aff.mixed Tryz.func11 rfl (by kernel_rfl) (fun _ _=>by kernel_rfl) (fun g=>(⟨[],[(1,[.nilc 0]),(1000002,[.own 2 50 34])]⟩:Ann)) (fun _=>0) (fun g=>Nat.le_of_ble_eq_true (by kernel_rfl)) ?_
 rintro g hn
 refine ab5 (B:=True/\(g.n=(0:Nat)->True/\True/\True/\True/\(True/\True)/\(Sx.Ask ((0:Nat)=g.n)/\∀ i:Nat,i<g.n->((((((((((((((((((((((((((((((((((True/\False)/\False)/\False)/\False)/\False)/\False)/\False)/\False)/\False)/\False)/\False)/\False)/\False)/\False)/\False)/\False)/\False)/\False)/\False)/\False)/\False)/\False)/\False)/\False)/\False)/\False)/\False)/\False)/\False)/\False)/\False)/\False)/\False)/\False))/\True)/\True/\True/\True/\True/\Sx.Ask ((0:Nat)+g.n<=(9223372036854775807:Nat)/\((0:Nat)+g.n)*(256:Nat)<=(140737488355328:Nat))/\True/\True/\(True/\True)/\(Sx.Ask ((0:Nat)+g.n=g.n)/\∀ i:Nat,i<g.n->(Lsg.qT True (g.f (i-(0:Nat))) (g.f i)))/\True) (by kernel_rfl) ?_
 delta Lsg.qG Lsg.qI Lsg.qM Lsg.qS Lsg.qT
 simp only [aa4,aa8,eq_self,true_and,and_true,implies_true,forall_const,decide_eq_true_eq,decide_eq_false_iff_not,ne_eq,Nat.mul_one,Nat.add_zero,Nat.zero_add]
 have hn:g.n<=4294967296:=hn
 refine ⟨fun h=>⟨h.symm,fun i hi=>absurd hi (by omega)⟩,⟨by omega,by omega⟩,fun i _=>?_⟩
 rw [Nat.sub_zero]
 repeat' first | exact rfl | exact ⟨rfl⟩ | exact True.intro | apply And.intro | intro _
def spHas:FSpec:=aa5 12 (γ:=InG) (fun | [r,.int _ x,.int _ y]=>some ⟨aj0 r,rgD r,x,y⟩ | _=>none) (fun g=>[rgS ⟨g.n,g.f⟩,.int .i64 g.x,.int .i64 g.y]) (fun g=>ai3 ⟨g.n,g.f⟩=0/\g.n<=9223372036854775807) (fun g=> .tup 2 (lst [.bool (decide g.is),.int .i64 0]))
theorem ok_has:aa2 Tryz.prog spHas:=by
 refine aa1 (specs:=[a07,spIn]) (aa9 (⟨ok_rgChk,ok_in,trivial⟩)) (eqs:=[]) (fun _ _ h=>(List.not_mem_nil h).elim) Aff.mixed Tryz.func12 rfl (by kernel_rfl) (fun _ _=>by kernel_rfl) (fun g=>A0) (fun g=>Nat.le_of_ble_eq_true (by kernel_rfl)) ?_
 rintro g ⟨hg,hn⟩
 refine ab5 (B:=let A:=Sx.Ask;let z1:=(IntKind.i64=IntKind.i64);let q1:=fun p:Int=>A z1/\A (p=p);let z0:=(A (g.n=g.n)/\∀ i:Nat,i<g.n->((True/\q1 ((g.f i).y))/\q1 ((g.f i).x0))/\q1 ((g.f i).x1));True/\True/\True/\((z0/\True)/\A (g.n<=(9223372036854775807:Nat)))/\True/\True/\True/\Sx.Br (decide (Lck.ai3 (Rga.Rg.mk g.n g.f)≠(0:Int))) (True/\True/\True/\True/\(True/\A (false=decide g.is))/\A z1/\A (Lck.ai3 (Rga.Rg.mk g.n g.f)=(0:Int))) (True/\True/\True/\((z0/\(q1 g.x)/\(q1 g.y)/\True)/\A (Lrd.BsOK (Lrd.BsG.mk g.n g.f (Lri.sOf (Rga.Rn.mk g.y g.x (0:Int))))))/\True/\True/\True/\(True/\A (decide g.is=decide g.is))/\q1 ((0:Int)))) (by kernel_rfl) ?_
 simp only [aa4,aa8,eq_self,true_and,and_true,implies_true,forall_const,decide_eq_true_eq,decide_eq_false_iff_not,ne_eq,Nat.mul_one,Nat.add_zero,Nat.zero_add]
 exact ⟨hn,fun h=>absurd hg h,fun _=>(vr_of hg).mono _⟩
theorem tiny_it (L:LsG) (i:Nat):(ag3 L).it i=L.it i:=rfl
theorem tiny_nm (L:LsG) (i:Nat):(ag3 L).nm i=L.nm i:=rfl
theorem strOf_str (s:ByteArray):strOf (.str s)=s:=rfl
theorem tiny_fold (L:LsG):(⟨cutI L.w 1 2,cutI L.h 1 2,L.ni,fun i=>L.nm i,if 12<L.n then 12 else L.n,L.it⟩:LsG)=ag3 L:=rfl
theorem tiny_n (L:LsG):(if 12<L.n then 12 else L.n)=(ag3 L).n:=by by_cases h:12<L.n<;>rfl
theorem tiny_w (L:LsG):cutI L.w 1 2=(ag3 L).w:=rfl
theorem tiny_h (L:LsG):cutI L.h 1 2=(ag3 L).h:=rfl
structure OtG where
 L:LsG
 R:Rg
 v:Ink
 x:Int
 y:Int
def OtG.ok (g:OtG):Prop:=(g.L.n<=maxLen/\∀ i,i<g.L.n->It8 (g.L.it i))/\g.R.n<=9223372036854775807/\u8i g.v
def OtG.T (g:OtG):LsG:=ag3 g.L
def OtG.X (g:OtG):Int:=cutI g.x 0 (16*g.T.w-1)
def OtG.Y (g:OtG):Int:=cutI g.y 0 (16*g.T.h-1)
def vlp (k i:Nat) (v:Ink) (j:Nat):Int:=if k<=j/\j<i then 0 else inkF v j
def vcut (k:Nat) (v:Ink):Ink:=⟨vlp k 8 v 0,vlp k 8 v 1,vlp k 8 v 2,vlp k 8 v 3,vlp k 8 v 4,vlp k 8 v 5,vlp k 8 v 6,vlp k 8 v 7⟩
noncomputable def OtG.N (g:OtG):List Rn:=Rgg.ak7 (Rgh.NrG.o ⟨g.R,25⟩).r
def OtG.V (g:OtG):Ink:=vcut g.T.ni g.v
noncomputable def OtG.I (g:OtG):It:=opq g.N.length (rI g.N) g.V
noncomputable def OtG.S (g:OtG):LsG:=snoc g.T g.I
def OtG.was (g:OtG) (j:Nat):Int:=AtL.v ⟨g.T,g.X,g.Y⟩ j
theorem cut_f {k j:Nat}{v:Ink}(hj:j<8):inkF (vcut k v) j=vlp k 8 v j:=match j,hj with | 0,_=>rfl | 1,_=>rfl | 2,_=>rfl | 3,_=>rfl | 4,_=>rfl | 5,_=>rfl | 6,_=>rfl | 7,_=>rfl
theorem cut_few (k:Nat) (v:Ink):ah2 ⟨inkF (vcut k v),k⟩:=fun j hk hj=>(cut_f hj).trans (if_pos ⟨hk,hj⟩)
theorem vlp_start (k:Nat) (v:Ink) (j:Nat):vlp k k v j=inkF v j:=if_neg (by omega)
theorem vlp_next {k i:Nat}(h:k<=i) (v:Ink) (j:Nat):(bif decide (i<=j/\j<i+1) then 0 else vlp k i v j)=vlp k (i+1) v j:=by
 unfold vlp
 by_cases e:j=i
 ·subst e
  rw [decide_eq_true (by omega)]
  exact (if_pos ⟨h,by omega⟩).symm
 ·rw [decide_eq_false (by omega)]
  show (if k<=j/\j<i then 0 else inkF v j)=_
  by_cases h2:k<=j/\j<i
  ·rw [if_pos h2,if_pos (by omega)]
  ·rw [if_neg h2,if_neg (by omega)]
theorem cut_u8 {k:Nat}{v:Ink}(h:u8i v):u8i (vcut k v):=by
 have go:∀ j,(0<=inkF v j/\inkF v j<=255)->0<=vlp k 8 v j/\vlp k 8 v j<=255:=fun j hj=>by
  unfold vlp
  split
  ·decide
  ·exact hj
 obtain ⟨⟨a0,a1,a2,a3⟩,a4,a5,a6,a7⟩:=h
 exact ⟨⟨go 0 a0,go 1 a1,go 2 a2,go 3 a3⟩,go 4 a4,go 5 a5,go 6 a6,go 7 a7⟩
theorem all8 {p:Nat->Prop}(h:∀ j,j<8->p j):((((((p 0/\p 1)/\p 2)/\p 3)/\p 4)/\p 5)/\p 6)/\p 7:=⟨⟨⟨⟨⟨⟨⟨h 0 (by decide),h 1 (by decide)⟩,h 2 (by decide)⟩,h 3 (by decide)⟩,h 4 (by decide)⟩,h 5 (by decide)⟩,h 6 (by decide)⟩,h 7 (by decide)⟩
def vO (v:Ink):SO:= .cells 8 (lst (inkL v)) 28
def otI (g:OtG):Inv:=⟨Nat,fun i=>chkL g.T=0/\g.T.ni<=i/\i<=8,fun i=>⟨[(1,rgS g.R),(3,.int .i64 g.x),(4,.int .i64 g.y),(5,.own 0 0),(7,.own 1 0),(11,.int .i64 i)],[lsO g.T,.cells 8 (fun j=> .int .u8 (vlp g.T.ni i g.v j)) 28]⟩,fun i=>8-i⟩
def otA (g:OtG):Inv:=⟨Unit,fun _=>chkL g.T=0,fun _=>⟨[(1,rgS g.R),(3,.int .i64 g.x),(4,.int .i64 g.y),(5,.own 0 0),(7,.own 1 0)],[lsO g.T,vO g.V]⟩,fun _=>0⟩
noncomputable def otB (g:OtG):Inv:=⟨Unit,fun _=>chkL g.T=0,fun _=>⟨[(1,a14 g.N),(3,.int .i64 g.X),(4,.int .i64 g.Y),(5,.own 0 0),(7,.own 1 0),(12,.own 2 0),(13,.int .i64 0)],[lsO g.T,vO g.V,.cells 8 (fun j=> .int .u8 (g.was j)) 28]⟩,fun _=>0⟩
noncomputable def otC (g:OtG):Inv:=⟨Unit,fun _=>chkL g.T=0,fun _=>⟨[(1,a14 g.N),(3,.int .i64 g.X),(4,.int .i64 g.Y),(5,.own 0 0),(7,.own 1 0),(12,.own 2 0),(13,.int .i64 0)],
 [.cells 4 (lst [.int .i64 g.T.w,.int .i64 g.T.h,.sl g.T.ni 1 (fun i _=> .str (g.T.nm i)),.osl 3 0]) 25,vO g.V,.cells 8 (fun j=> .int .u8 (g.was j)) 28,.row 0 (g.T.n+1) 34 (fun i=>lst (itL (g.S.it i))) 50]⟩,fun _=>0⟩
noncomputable def spOt:FSpec:=aa5 3 (γ:=OtG) (fun | [.agg _ g,r,.agg _ v,.int _ x,.int _ y]=>some ⟨lsD g,⟨aj0 r,rgD r⟩,inkD v,x,y⟩ | _=>none) (fun g=>[lsS g.L,rgS g.R,.agg 8 (lst (inkL g.v)),.int .i64 g.x,.int .i64 g.y]) OtG.ok (fun _=> .bool true)
theorem S_fold (g:OtG):(⟨cutI g.L.w 1 2,cutI g.L.h 1 2,g.L.ni,fun i=>g.L.nm i,(if 12<g.L.n then 12 else g.L.n)+1,fun i=>if i=(if 12<g.L.n then 12 else g.L.n) then g.I else g.L.it i⟩:LsG)=g.S:=rfl
set_option maxHeartbeats 4000000 in
theorem ok_ot:aa2 Tryz.prog spOt:=by
 refine aa1 (specs:=[spShown,spTiny,spLchk,Rgh.au6,spCut,giv spAtL,spClIt,spHas]) (aa9 ⟨ok_shown,ok_tiny,ok_lchk,Rgh.as4,ok_cut,giv_ok ok_atL,ok_clIt,ok_has,trivial⟩) (eqs:=eqL) (all_eq eqL_ok) Aff.mixed Tryz.func3 rfl (by kernel_rfl) (fun _ _=>by kernel_rfl) (fun g=>(⟨[(7,.inv (otI g)),(10,.cut (otA g)),(13,.cut (otB g)),(14,.cut (otC g))],[]⟩:Ann)) (fun g=>Nat.le_of_ble_eq_true (by kernel_rfl)) ?_
 rintro g ⟨⟨hn,hL⟩,hR,hv⟩
 refine ab5 (B:=let T3:=fun p:Prop=>True/\True/\True/\p;let T5:=fun p:Prop=>True/\True/\True/\True/\True/\p;let J:=IntKind.i64;let K:=Sx.Br;let A:=Sx.Ask;let z74:=(Lsh.ag3 g.L);let z72:=(9223372036854775807:Nat);let z71:=(fun (i:Nat)=>Lsg.strOf (Sx.SV.str (g.T.nm i)));let z66:=(g.L.ni=g.L.ni);let z65:=(T5 (A (false=true)));let z61:=(33:Nat);let z60:=(32:Nat);let z59:=(31:Nat);let z58:=(28:Nat);let z57:=(27:Nat);let z56:=(20:Nat);let z55:=(19:Nat);let z54:=(16:Nat);let z50:=(4611686018427387903:Int);let z49:=(Img.inkL g.V);let z48:=(7:Nat);let z47:=(6:Nat);let z46:=(5:Nat);let z45:=(4:Nat);let z44:=(3:Nat);let z42:=(Lri.InG.mk g.N.length (Rga.rI g.N) g.X g.Y);let z36:=(29:Nat);let z34:=(9223372036854775807:Int);let z33:=(-9223372036854775808:Int);let z31:=(12:Nat);let z29:=(Rgg.ak7 (Rgh.NrG.mk g.R (25:Int)).o.r);let z27:=(Sx.SV.lit false);let z26:=(16:Int);let z24:=(2:Int);let z22:=(Sx.SV.int IntKind.u8 (255:Int));let z18:=(8:Nat);let z16:=(2:Nat);let z15:=(1:Int);let z76:=(cutI g.L.h z15 z24);let z75:=(cutI g.L.w z15 z24);let z39:=(z26*cutI g.L.h z15 z24-z15);let z38:=(z26*cutI g.L.w z15 z24-z15);let z14:=(34:Nat);let z10:=(1:Nat);let z9:=(if z31<g.L.n then z31 else g.L.n);let z28:=(Lsg.LsG.mk z75 z76 g.L.ni z71 z9 g.L.it);let z23:=(z9=if z31<g.L.n then z31 else g.L.n);let z19:=(Lsg.LsG.mk z75 z76 g.L.ni z71 (z9+z10) fun (i:Nat)=>if i=if z31<g.L.n then z31 else g.L.n then g.I else g.T.it i);let z6:=(IntKind.u8=IntKind.u8);let q6:=fun p:Int=>A z6/\A (p=p);let z5:=(0:Nat);let z73:=(z5+(z5+z10+z10));let z69:=(z5+(z5+z10+z10+z10));let z64:=(z5=z5);let z53:=(z5+(z5+z10+z10+z10+z10));let z43:=(z5+(z5+z10+z10+z10+z10+z10));let z37:=(z5+(z5+z10+z10+z10+z10+z10+z10));let z32:=(z5+(z5+z10+z10+z10+z10+z10+z10+z10));let z11:=((((((((True/\q6 (vlp g.L.ni z18 g.v z5))/\q6 (vlp g.L.ni z18 g.v z10))/\q6 (vlp g.L.ni z18 g.v z16))/\q6 (vlp g.L.ni z18 g.v z44))/\q6 (vlp g.L.ni z18 g.v z45))/\q6 (vlp g.L.ni z18 g.v z46))/\q6 (vlp g.L.ni z18 g.v z47))/\q6 (vlp g.L.ni z18 g.v z48));let z3:=(J=J);let q3:=fun p:Int=>A z3/\A (p=p);let z63:=(q3 g.Y);let z62:=(q3 g.X);let z41:=(q3 g.y);let z40:=(q3 g.x);let z17:=(A (g.N.length=g.N.length)/\∀ i:Nat,let z68:=(Rga.rI g.N i); i<g.N.length->(((True/\q3 z68.y)/\q3 z68.x0)/\q3 z68.x1));let z12:=(A (g.R.n=g.R.n)/\∀ i:Nat,i<g.R.n->(((True/\q3 ((g.R.f i).y))/\q3 ((g.R.f i).x0))/\q3 ((g.R.f i).x1)));let z7:=((True/\q3 (cutI g.L.w z15 z24))/\q3 (cutI g.L.h z15 z24));let z35:=(z7/\A z66/\∀ i:Nat,i<g.L.ni->True/\A (g.T.nm i=g.T.nm i));let z30:=(z7/\A z66/\∀ i:Nat,i<g.L.ni->True/\A (g.T.nm i=Lsg.strOf (Sx.SV.str (g.T.nm i))));let z13:=(z35/\A z23/\∀ i:Nat,(i<if z31<g.L.n then z31 else g.L.n)->(Lsg.qT True (g.T.it i) (g.T.it i)));let z2:=(0:Int);let z67:=(q3 z2);let z1:=(Lat.AtL.mk z28 (cutI g.x z2 z38) (cutI g.y z2 z39));let z0:=(Lat.AtL.mk z19 g.X g.Y);let z8:=(T5 (T3 (A ((decide (z0.v (z5+z5)=g.was (z5+z5))&&(decide (z0.v (z5+(z5+z10))=g.was (z5+(z5+z10)))&&(decide (z0.v z73=g.was z73)&&(decide (z0.v z69=g.was z69)&&(decide (z0.v z53=g.was z53)&&(decide (z0.v z43=g.was z43)&&(decide (z0.v z37=g.was z37)&&(decide (z0.v z32=g.was z32)&&true))))))))=true))));T3 ((True/\A True)/\True/\True/\((((((True/\q3 g.L.w)/\q3 g.L.h)/\A z66/\∀ i:Nat,i<g.L.ni->True/\A (g.L.nm i=g.L.nm i))/\A (g.L.n=g.L.n)/\∀ i:Nat,i<g.L.n->(Lsg.qT True (g.L.it i) (g.L.it i)))/\True)/\A True)/\True/\True/\((((z7/\A z66/\∀ i:Nat,i<g.L.ni->True/\A (z74.nm i=Lsg.strOf (Sx.SV.str (z74.nm i))))/\A z23/\∀ i:Nat,(i<if z31<g.L.n then z31 else g.L.n)->(Lsg.qT True (g.L.it i) (g.L.it i)))/\True)/\A (∀ i:Nat,(i<if z31<g.L.n then z31 else g.L.n)->(g.L.it i).nr<=z72))/\True/\K (decide (Lcl.chkL (Lsg.LsG.mk z75 z76 g.L.ni (fun (i:Nat)=>Lsg.strOf (Sx.SV.str (z74.nm i))) z9 g.L.it)≠z2)) (True/\True/\A (true=true)) ((T3 (True/\(∃ g_1:Nat,A ((otI g).pre g_1)/\(z12/\z40/\z41/\A z64/\A z64/\(A z3/\A ((↑g.L.ni:Int)=(↑g_1:Int)))/\True)/\((z7/\A z66/\∀ i:Nat,i<g.L.ni->True/\A (z74.nm i=g.T.nm i))/\A z23/\∀ i:Nat,(i<if z31<g.L.n then z31 else g.L.n)->(Lsg.qT True (g.L.it i) (g.T.it i)))/\((((((((True/\A z6/\A (g.v.c0=vlp g.L.ni g_1 g.v z5))/\A z6/\A (g.v.c1=vlp g.L.ni g_1 g.v z10))/\A z6/\A (g.v.c2=vlp g.L.ni g_1 g.v z16))/\A z6/\A (g.v.c3=vlp g.L.ni g_1 g.v z44))/\A z6/\A (g.v.c4=vlp g.L.ni g_1 g.v z45))/\A z6/\A (g.v.c5=vlp g.L.ni g_1 g.v z46))/\A z6/\A (g.v.c6=vlp g.L.ni g_1 g.v z47))/\A z6/\A (g.v.c7=vlp g.L.ni g_1 g.v z48))/\True)/\∀ g_1:Nat,let z25:=(↑g_1:Int); (otI g).pre g_1->True/\True/\K (decide (z25<(8:Int))) (True/\A (z2<=z25/\z25<(↑z18:Int))/\K (decide (z5+z25.toNat*z10+z10<=z18)) True False/\True/\A (z33<=z25+z15/\z25+z15<=z34)/\True/\∃ (g':Nat),A ((otI g).pre g')/\((z12/\z40/\z41/\A z64/\A z64/\(A z3/\A (z25+z15=(↑g':Int)))/\True)/\z13/\((((((((True/\A z6/\A ((bif decide (z5+z25.toNat*z10<=z5/\z5<z5+z25.toNat*z10+z10) then z2 else vlp g.L.ni g_1 g.v z5)=vlp g.L.ni g' g.v z5))/\A z6/\A ((bif decide (z5+z25.toNat*z10<=z10/\z10<z5+z25.toNat*z10+z10) then z2 else vlp g.L.ni g_1 g.v z10)=vlp g.L.ni g' g.v z10))/\A z6/\A ((bif decide (z5+z25.toNat*z10<=z16/\z16<z5+z25.toNat*z10+z10) then z2 else vlp g.L.ni g_1 g.v z16)=vlp g.L.ni g' g.v z16))/\A z6/\A ((bif decide (z5+z25.toNat*z10<=z44/\z44<z5+z25.toNat*z10+z10) then z2 else vlp g.L.ni g_1 g.v z44)=vlp g.L.ni g' g.v z44))/\A z6/\A ((bif decide (z5+z25.toNat*z10<=z45/\z45<z5+z25.toNat*z10+z10) then z2 else vlp g.L.ni g_1 g.v z45)=vlp g.L.ni g' g.v z45))/\A z6/\A ((bif decide (z5+z25.toNat*z10<=z46/\z46<z5+z25.toNat*z10+z10) then z2 else vlp g.L.ni g_1 g.v z46)=vlp g.L.ni g' g.v z46))/\A z6/\A ((bif decide (z5+z25.toNat*z10<=z47/\z47<z5+z25.toNat*z10+z10) then z2 else vlp g.L.ni g_1 g.v z47)=vlp g.L.ni g' g.v z47))/\A z6/\A ((bif decide (z5+z25.toNat*z10<=z48/\z48<z5+z25.toNat*z10+z10) then z2 else vlp g.L.ni g_1 g.v z48)=vlp g.L.ni g' g.v z48))/\True)/\A ((otI g).meas g'<(otI g).meas g_1)) (∃ g_2:Unit,A ((otA g).pre g_2)/\(z12/\z40/\z41/\A z64/\A z64/\True)/\z13/\((((((((True/\A z6/\A (vlp g.L.ni g_1 g.v z5=vlp g.L.ni z18 g.v z5))/\A z6/\A (vlp g.L.ni g_1 g.v z10=vlp g.L.ni z18 g.v z10))/\A z6/\A (vlp g.L.ni g_1 g.v z16=vlp g.L.ni z18 g.v z16))/\A z6/\A (vlp g.L.ni g_1 g.v z44=vlp g.L.ni z18 g.v z44))/\A z6/\A (vlp g.L.ni g_1 g.v z45=vlp g.L.ni z18 g.v z45))/\A z6/\A (vlp g.L.ni g_1 g.v z46=vlp g.L.ni z18 g.v z46))/\A z6/\A (vlp g.L.ni g_1 g.v z47=vlp g.L.ni z18 g.v z47))/\A z6/\A (vlp g.L.ni g_1 g.v z48=vlp g.L.ni z18 g.v z48))/\True)))/\∀ g_1:Unit,(otA g).pre g_1->True/\((z12/\(q3 ((25:Int)))/\True)/\A (Rgh.NrG.mk g.R (25:Int)).ok)/\T3 (True/\A (z33<=z26*cutI g.L.w z15 z24/\z26*cutI g.L.w z15 z24<=z34)/\A (z33<=z26*cutI g.L.w z15 z24-z15/\z26*cutI g.L.w z15 z24-z15<=z34)/\((z40/\z67/\(q3 (z26*cutI g.L.w z15 z24-z15))/\True)/\A (((-2305843009213693952:Int)<=z2/\z2<=z26*cutI g.L.w z15 z24-z15)/\z26*cutI g.L.w z15 z24-z15<=z50/\z26*cutI g.L.w z15 z24-z15-z2<=z50))/\T3 (A (z33<=z26*cutI g.L.h z15 z24/\z26*cutI g.L.h z15 z24<=z34)/\A (z33<=z26*cutI g.L.h z15 z24-z15/\z26*cutI g.L.h z15 z24-z15<=z34)/\((z41/\z67/\(q3 (z26*cutI g.L.h z15 z24-z15))/\True)/\A (((-2305843009213693952:Int)<=z2/\z2<=z26*cutI g.L.h z15 z24-z15)/\z26*cutI g.L.h z15 z24-z15<=z50/\z26*cutI g.L.h z15 z24-z15-z2<=z50))/\True/\True/\(T3 ((((z30/\A z23/\∀ i:Nat,(i<if z31<g.L.n then z31 else g.L.n)->(Lsg.qT True (g.T.it i) (g.T.it i)))/\(q3 (cutI g.x z2 z38))/\(q3 (cutI g.y z2 z39))/\True)/\A (Lto.LsU8 z28))/\T5 (True/\∃ g_2:Unit,A ((otB g).pre g_2)/\((A (z29.length=g.N.length)/\∀ i:Nat,i<g.N.length->(((True/\A z3/\A ((Rga.rI z29 i).y=(Rga.rI g.N i).y))/\A z3/\A ((Rga.rI z29 i).x0=(Rga.rI g.N i).x0))/\A z3/\A ((Rga.rI z29 i).x1=(Rga.rI g.N i).x1)))/\(A z3/\A (cutI g.x z2 z38=g.X))/\(A z3/\A (cutI g.y z2 z39=g.Y))/\A z64/\A z64/\A z64/\(A z3/\A (z1.e=z2))/\True)/\z13/\z11/\((((((((True/\A z6/\A (z1.v z5=g.was z5))/\A z6/\A (z1.v z10=g.was z10))/\A z6/\A (z1.v z16=g.was z16))/\A z6/\A (z1.v z44=g.was z44))/\A z6/\A (z1.v z45=g.was z45))/\A z6/\A (z1.v z46=g.was z46))/\A z6/\A (z1.v z47=g.was z47))/\A z6/\A (z1.v z48=g.was z48))/\True)))/\∀ g_2:Unit,(otB g).pre g_2->((True/\True/\(((A z23/\∀ i:Nat,(i<if z31<g.L.n then z31 else g.L.n)->(Lsg.qT True (g.T.it i) (g.T.it i)))/\True)/\A (z9<=(4294967296:Nat)))/\T5 (A (z9+z10<=z72/\(z9+z10)*(256:Nat)<=(140737488355328:Nat))/\True/\True/\∃ g_3:Unit,A ((otC g).pre g_3)/\(z17/\z62/\z63/\A z64/\A z64/\A z64/\z67/\True)/\(z35/\True)/\z11/\((((((((True/\q6 (g.was z5))/\q6 (g.was z10))/\q6 (g.was z16))/\q6 (g.was z44))/\q6 (g.was z45))/\q6 (g.was z46))/\q6 (g.was z47))/\q6 (g.was z48))/\(A (z9+z10=z9+z10)/\∀ i:Nat,let z21:=(g.T.it i);let z51:=(Lsg.itL z21);let z20:=(g.S.it i);let z52:=(Lsg.itL z20);let z4:=(i<if z31<g.L.n then z31 else g.L.n);let z70:=(decide z4); i<z9+z10->((((((((((((((((((((((((((((((((((True/\A z3/\A ((bif decide z4 then z21.kind else z2)=z20.kind))/\A ((bif decide z4 then z21.nr else g.N.length)=z20.nr)/\∀ i_1:Nat,i_1<z20.nr->(((True/\A z3/\A ((bif decide z4 then (z21.runs i_1).y else (Rga.rI g.N i_1).y)=(z20.runs i_1).y))/\A z3/\A ((bif decide z4 then (z21.runs i_1).x0 else (Rga.rI g.N i_1).x0)=(z20.runs i_1).x0))/\A z3/\A ((bif decide z4 then (z21.runs i_1).x1 else (Rga.rI g.N i_1).x1)=(z20.runs i_1).x1)))/\A z3/\A ((bif decide z4 then z21.src.kind else z2)=z20.src.kind))/\A z6/\A ((bif decide z4 then z21.src.ink.c0 else vlp g.L.ni z18 g.v z5)=z20.src.ink.c0))/\A z6/\A ((bif decide z4 then z21.src.ink.c1 else vlp g.L.ni z18 g.v z10)=z20.src.ink.c1))/\A z6/\A ((bif decide z4 then z21.src.ink.c2 else vlp g.L.ni z18 g.v z16)=z20.src.ink.c2))/\A z6/\A ((bif decide z4 then z21.src.ink.c3 else vlp g.L.ni z18 g.v z44)=z20.src.ink.c3))/\A z6/\A ((bif decide z4 then z21.src.ink.c4 else vlp g.L.ni z18 g.v z45)=z20.src.ink.c4))/\A z6/\A ((bif decide z4 then z21.src.ink.c5 else vlp g.L.ni z18 g.v z46)=z20.src.ink.c5))/\A z6/\A ((bif decide z4 then z21.src.ink.c6 else vlp g.L.ni z18 g.v z47)=z20.src.ink.c6))/\A z6/\A ((bif decide z4 then z21.src.ink.c7 else vlp g.L.ni z18 g.v z48)=z20.src.ink.c7))/\A z3/\A ((bif decide z4 then z21.src.fx else z2)=z20.src.fx))/\A z3/\A ((bif decide z4 then z21.src.fy else z2)=z20.src.fy))/\A z3/\A ((bif decide z4 then z21.src.tx else z2)=z20.src.tx))/\A z3/\A ((bif decide z4 then z21.src.ty else z2)=z20.src.ty))/\A z3/\A ((bif decide z4 then z21.src.rad else z2)=z20.src.rad))/\Sx.SVle [] [] (Sx.selS z70 (Sx.lst z51 z54) (Sx.selS (decide (z5*z14<=z54/\z54<z5*z14+[Go.Value.int J z2,Go.Value.slice Option.none z5 z5,Go.Value.int J z2,Go.Value.int IntKind.u8 z2,Go.Value.int IntKind.u8 z2,Go.Value.int IntKind.u8 z2,Go.Value.int IntKind.u8 z2,Go.Value.int IntKind.u8 z2,Go.Value.int IntKind.u8 z2,Go.Value.int IntKind.u8 z2,Go.Value.int IntKind.u8 z2,Go.Value.int J z2,Go.Value.int J z2,Go.Value.int J z2,Go.Value.int J z2,Go.Value.int J z2,Go.Value.slice Option.none z5 z5,Go.Value.int J z2,Go.Value.int J z2,Go.Value.slice Option.none z5 z5,Go.Value.slice Option.none z5 z5,Go.Value.int J z2,Go.Value.int J z2,Go.Value.int J z2,Go.Value.int J z2,Go.Value.int J z2,Go.Value.int J z2,Go.Value.bool false,Go.Value.bool false,Go.Value.int IntKind.u8 z2,Go.Value.int J z2,Go.Value.bool false,Go.Value.bool false,Go.Value.bool false].length)) (Sx.selS (decide (z36<=z54-z5*z14/\z54-z5*z14<z36+z10)) z22 (Sx.selS (decide (z16<=z54-z5*z14/\z54-z5*z14<z16+[Go.Value.int J z2,Go.Value.int IntKind.u8 z2,Go.Value.int IntKind.u8 z2,Go.Value.int IntKind.u8 z2,Go.Value.int IntKind.u8 z2,Go.Value.int IntKind.u8 z2,Go.Value.int IntKind.u8 z2,Go.Value.int IntKind.u8 z2,Go.Value.int IntKind.u8 z2,Go.Value.int J z2,Go.Value.int J z2,Go.Value.int J z2,Go.Value.int J z2,Go.Value.int J z2,Go.Value.slice Option.none z5 z5,Go.Value.int J z2,Go.Value.int J z2,Go.Value.slice Option.none z5 z5,Go.Value.slice Option.none z5 z5,Go.Value.int J z2,Go.Value.int J z2,Go.Value.int J z2,Go.Value.int J z2,Go.Value.int J z2,Go.Value.int J z2,Go.Value.bool false,Go.Value.bool false].length)) (Sx.selS (decide (z10<=z54-z5*z14-z16/\z54-z5*z14-z16<z10+z18)) (Sx.lst z49 (z5+(z54-z5*z14-z16-z10))) Sx.SV.cap0) Sx.SV.cap0)) Sx.SV.cap0)) (Sx.lst z52 z54))/\A z3/\A ((bif decide z4 then z21.src.img.w else z2)=z20.src.img.w))/\A z3/\A ((bif decide z4 then z21.src.img.h else z2)=z20.src.img.h))/\Sx.SVle [] [] (Sx.selS z70 (Sx.lst z51 z55) (Sx.selS (decide (z5*z14<=z55/\z55<z5*z14+[Go.Value.int J z2,Go.Value.slice Option.none z5 z5,Go.Value.int J z2,Go.Value.int IntKind.u8 z2,Go.Value.int IntKind.u8 z2,Go.Value.int IntKind.u8 z2,Go.Value.int IntKind.u8 z2,Go.Value.int IntKind.u8 z2,Go.Value.int IntKind.u8 z2,Go.Value.int IntKind.u8 z2,Go.Value.int IntKind.u8 z2,Go.Value.int J z2,Go.Value.int J z2,Go.Value.int J z2,Go.Value.int J z2,Go.Value.int J z2,Go.Value.slice Option.none z5 z5,Go.Value.int J z2,Go.Value.int J z2,Go.Value.slice Option.none z5 z5,Go.Value.slice Option.none z5 z5,Go.Value.int J z2,Go.Value.int J z2,Go.Value.int J z2,Go.Value.int J z2,Go.Value.int J z2,Go.Value.int J z2,Go.Value.bool false,Go.Value.bool false,Go.Value.int IntKind.u8 z2,Go.Value.int J z2,Go.Value.bool false,Go.Value.bool false,Go.Value.bool false].length)) (Sx.selS (decide (z36<=z55-z5*z14/\z55-z5*z14<z36+z10)) z22 (Sx.selS (decide (z16<=z55-z5*z14/\z55-z5*z14<z16+[Go.Value.int J z2,Go.Value.int IntKind.u8 z2,Go.Value.int IntKind.u8 z2,Go.Value.int IntKind.u8 z2,Go.Value.int IntKind.u8 z2,Go.Value.int IntKind.u8 z2,Go.Value.int IntKind.u8 z2,Go.Value.int IntKind.u8 z2,Go.Value.int IntKind.u8 z2,Go.Value.int J z2,Go.Value.int J z2,Go.Value.int J z2,Go.Value.int J z2,Go.Value.int J z2,Go.Value.slice Option.none z5 z5,Go.Value.int J z2,Go.Value.int J z2,Go.Value.slice Option.none z5 z5,Go.Value.slice Option.none z5 z5,Go.Value.int J z2,Go.Value.int J z2,Go.Value.int J z2,Go.Value.int J z2,Go.Value.int J z2,Go.Value.int J z2,Go.Value.bool false,Go.Value.bool false].length)) (Sx.selS (decide (z10<=z55-z5*z14-z16/\z55-z5*z14-z16<z10+z18)) (Sx.lst z49 (z5+(z55-z5*z14-z16-z10))) Sx.SV.cap0) Sx.SV.cap0)) Sx.SV.cap0)) (Sx.lst z52 z55))/\Sx.SVle [] [] (Sx.selS z70 (Sx.lst z51 z56) (Sx.selS (decide (z5*z14<=z56/\z56<z5*z14+[Go.Value.int J z2,Go.Value.slice Option.none z5 z5,Go.Value.int J z2,Go.Value.int IntKind.u8 z2,Go.Value.int IntKind.u8 z2,Go.Value.int IntKind.u8 z2,Go.Value.int IntKind.u8 z2,Go.Value.int IntKind.u8 z2,Go.Value.int IntKind.u8 z2,Go.Value.int IntKind.u8 z2,Go.Value.int IntKind.u8 z2,Go.Value.int J z2,Go.Value.int J z2,Go.Value.int J z2,Go.Value.int J z2,Go.Value.int J z2,Go.Value.slice Option.none z5 z5,Go.Value.int J z2,Go.Value.int J z2,Go.Value.slice Option.none z5 z5,Go.Value.slice Option.none z5 z5,Go.Value.int J z2,Go.Value.int J z2,Go.Value.int J z2,Go.Value.int J z2,Go.Value.int J z2,Go.Value.int J z2,Go.Value.bool false,Go.Value.bool false,Go.Value.int IntKind.u8 z2,Go.Value.int J z2,Go.Value.bool false,Go.Value.bool false,Go.Value.bool false].length)) (Sx.selS (decide (z36<=z56-z5*z14/\z56-z5*z14<z36+z10)) z22 (Sx.selS (decide (z16<=z56-z5*z14/\z56-z5*z14<z16+[Go.Value.int J z2,Go.Value.int IntKind.u8 z2,Go.Value.int IntKind.u8 z2,Go.Value.int IntKind.u8 z2,Go.Value.int IntKind.u8 z2,Go.Value.int IntKind.u8 z2,Go.Value.int IntKind.u8 z2,Go.Value.int IntKind.u8 z2,Go.Value.int IntKind.u8 z2,Go.Value.int J z2,Go.Value.int J z2,Go.Value.int J z2,Go.Value.int J z2,Go.Value.int J z2,Go.Value.slice Option.none z5 z5,Go.Value.int J z2,Go.Value.int J z2,Go.Value.slice Option.none z5 z5,Go.Value.slice Option.none z5 z5,Go.Value.int J z2,Go.Value.int J z2,Go.Value.int J z2,Go.Value.int J z2,Go.Value.int J z2,Go.Value.int J z2,Go.Value.bool false,Go.Value.bool false].length)) (Sx.selS (decide (z10<=z56-z5*z14-z16/\z56-z5*z14-z16<z10+z18)) (Sx.lst z49 (z5+(z56-z5*z14-z16-z10))) Sx.SV.cap0) Sx.SV.cap0)) Sx.SV.cap0)) (Sx.lst z52 z56))/\A z3/\A ((bif decide z4 then z21.src.img.m.a else z2)=z20.src.img.m.a))/\A z3/\A ((bif decide z4 then z21.src.img.m.b else z2)=z20.src.img.m.b))/\A z3/\A ((bif decide z4 then z21.src.img.m.c else z2)=z20.src.img.m.c))/\A z3/\A ((bif decide z4 then z21.src.img.m.d else z2)=z20.src.img.m.d))/\A z3/\A ((bif decide z4 then z21.src.img.m.e else z2)=z20.src.img.m.e))/\A z3/\A ((bif decide z4 then z21.src.img.m.f else z2)=z20.src.img.m.f))/\Sx.SVle [] [] (Sx.selS z70 (Sx.lst z51 z57) (Sx.selS (decide (z5*z14<=z57/\z57<z5*z14+[Go.Value.int J z2,Go.Value.slice Option.none z5 z5,Go.Value.int J z2,Go.Value.int IntKind.u8 z2,Go.Value.int IntKind.u8 z2,Go.Value.int IntKind.u8 z2,Go.Value.int IntKind.u8 z2,Go.Value.int IntKind.u8 z2,Go.Value.int IntKind.u8 z2,Go.Value.int IntKind.u8 z2,Go.Value.int IntKind.u8 z2,Go.Value.int J z2,Go.Value.int J z2,Go.Value.int J z2,Go.Value.int J z2,Go.Value.int J z2,Go.Value.slice Option.none z5 z5,Go.Value.int J z2,Go.Value.int J z2,Go.Value.slice Option.none z5 z5,Go.Value.slice Option.none z5 z5,Go.Value.int J z2,Go.Value.int J z2,Go.Value.int J z2,Go.Value.int J z2,Go.Value.int J z2,Go.Value.int J z2,Go.Value.bool false,Go.Value.bool false,Go.Value.int IntKind.u8 z2,Go.Value.int J z2,Go.Value.bool false,Go.Value.bool false,Go.Value.bool false].length)) (Sx.selS (decide (z36<=z57-z5*z14/\z57-z5*z14<z36+z10)) z22 (Sx.selS (decide (z16<=z57-z5*z14/\z57-z5*z14<z16+[Go.Value.int J z2,Go.Value.int IntKind.u8 z2,Go.Value.int IntKind.u8 z2,Go.Value.int IntKind.u8 z2,Go.Value.int IntKind.u8 z2,Go.Value.int IntKind.u8 z2,Go.Value.int IntKind.u8 z2,Go.Value.int IntKind.u8 z2,Go.Value.int IntKind.u8 z2,Go.Value.int J z2,Go.Value.int J z2,Go.Value.int J z2,Go.Value.int J z2,Go.Value.int J z2,Go.Value.slice Option.none z5 z5,Go.Value.int J z2,Go.Value.int J z2,Go.Value.slice Option.none z5 z5,Go.Value.slice Option.none z5 z5,Go.Value.int J z2,Go.Value.int J z2,Go.Value.int J z2,Go.Value.int J z2,Go.Value.int J z2,Go.Value.int J z2,Go.Value.bool false,Go.Value.bool false].length)) (Sx.selS (decide (z10<=z57-z5*z14-z16/\z57-z5*z14-z16<z10+z18)) (Sx.lst z49 (z5+(z57-z5*z14-z16-z10))) z27) z27)) z27)) (Sx.lst z52 z57))/\Sx.SVle [] [] (Sx.selS z70 (Sx.lst z51 z58) (Sx.selS (decide (z5*z14<=z58/\z58<z5*z14+[Go.Value.int J z2,Go.Value.slice Option.none z5 z5,Go.Value.int J z2,Go.Value.int IntKind.u8 z2,Go.Value.int IntKind.u8 z2,Go.Value.int IntKind.u8 z2,Go.Value.int IntKind.u8 z2,Go.Value.int IntKind.u8 z2,Go.Value.int IntKind.u8 z2,Go.Value.int IntKind.u8 z2,Go.Value.int IntKind.u8 z2,Go.Value.int J z2,Go.Value.int J z2,Go.Value.int J z2,Go.Value.int J z2,Go.Value.int J z2,Go.Value.slice Option.none z5 z5,Go.Value.int J z2,Go.Value.int J z2,Go.Value.slice Option.none z5 z5,Go.Value.slice Option.none z5 z5,Go.Value.int J z2,Go.Value.int J z2,Go.Value.int J z2,Go.Value.int J z2,Go.Value.int J z2,Go.Value.int J z2,Go.Value.bool false,Go.Value.bool false,Go.Value.int IntKind.u8 z2,Go.Value.int J z2,Go.Value.bool false,Go.Value.bool false,Go.Value.bool false].length)) (Sx.selS (decide (z36<=z58-z5*z14/\z58-z5*z14<z36+z10)) z22 (Sx.selS (decide (z16<=z58-z5*z14/\z58-z5*z14<z16+[Go.Value.int J z2,Go.Value.int IntKind.u8 z2,Go.Value.int IntKind.u8 z2,Go.Value.int IntKind.u8 z2,Go.Value.int IntKind.u8 z2,Go.Value.int IntKind.u8 z2,Go.Value.int IntKind.u8 z2,Go.Value.int IntKind.u8 z2,Go.Value.int IntKind.u8 z2,Go.Value.int J z2,Go.Value.int J z2,Go.Value.int J z2,Go.Value.int J z2,Go.Value.int J z2,Go.Value.slice Option.none z5 z5,Go.Value.int J z2,Go.Value.int J z2,Go.Value.slice Option.none z5 z5,Go.Value.slice Option.none z5 z5,Go.Value.int J z2,Go.Value.int J z2,Go.Value.int J z2,Go.Value.int J z2,Go.Value.int J z2,Go.Value.int J z2,Go.Value.bool false,Go.Value.bool false].length)) (Sx.selS (decide (z10<=z58-z5*z14-z16/\z58-z5*z14-z16<z10+z18)) (Sx.lst z49 (z5+(z58-z5*z14-z16-z10))) z27) z27)) z27)) (Sx.lst z52 z58))/\A z6/\A ((bif decide z4 then z21.alpha else (255:Int))=z20.alpha))/\A z3/\A ((bif decide z4 then z21.blend else z2)=z20.blend))/\Sx.SVle [] [] (Sx.selS z70 (Sx.lst z51 z59) (Sx.selS (decide (z5*z14<=z59/\z59<z5*z14+[Go.Value.int J z2,Go.Value.slice Option.none z5 z5,Go.Value.int J z2,Go.Value.int IntKind.u8 z2,Go.Value.int IntKind.u8 z2,Go.Value.int IntKind.u8 z2,Go.Value.int IntKind.u8 z2,Go.Value.int IntKind.u8 z2,Go.Value.int IntKind.u8 z2,Go.Value.int IntKind.u8 z2,Go.Value.int IntKind.u8 z2,Go.Value.int J z2,Go.Value.int J z2,Go.Value.int J z2,Go.Value.int J z2,Go.Value.int J z2,Go.Value.slice Option.none z5 z5,Go.Value.int J z2,Go.Value.int J z2,Go.Value.slice Option.none z5 z5,Go.Value.slice Option.none z5 z5,Go.Value.int J z2,Go.Value.int J z2,Go.Value.int J z2,Go.Value.int J z2,Go.Value.int J z2,Go.Value.int J z2,Go.Value.bool false,Go.Value.bool false,Go.Value.int IntKind.u8 z2,Go.Value.int J z2,Go.Value.bool false,Go.Value.bool false,Go.Value.bool false].length)) (Sx.selS (decide (z36<=z59-z5*z14/\z59-z5*z14<z36+z10)) z22 (Sx.selS (decide (z16<=z59-z5*z14/\z59-z5*z14<z16+[Go.Value.int J z2,Go.Value.int IntKind.u8 z2,Go.Value.int IntKind.u8 z2,Go.Value.int IntKind.u8 z2,Go.Value.int IntKind.u8 z2,Go.Value.int IntKind.u8 z2,Go.Value.int IntKind.u8 z2,Go.Value.int IntKind.u8 z2,Go.Value.int IntKind.u8 z2,Go.Value.int J z2,Go.Value.int J z2,Go.Value.int J z2,Go.Value.int J z2,Go.Value.int J z2,Go.Value.slice Option.none z5 z5,Go.Value.int J z2,Go.Value.int J z2,Go.Value.slice Option.none z5 z5,Go.Value.slice Option.none z5 z5,Go.Value.int J z2,Go.Value.int J z2,Go.Value.int J z2,Go.Value.int J z2,Go.Value.int J z2,Go.Value.int J z2,Go.Value.bool false,Go.Value.bool false].length)) (Sx.selS (decide (z10<=z59-z5*z14-z16/\z59-z5*z14-z16<z10+z18)) (Sx.lst z49 (z5+(z59-z5*z14-z16-z10))) Sx.SV.any) z27)) z27)) (Sx.lst z52 z59))/\Sx.SVle [] [] (Sx.selS z70 (Sx.lst z51 z60) (Sx.selS (decide (z5*z14<=z60/\z60<z5*z14+[Go.Value.int J z2,Go.Value.slice Option.none z5 z5,Go.Value.int J z2,Go.Value.int IntKind.u8 z2,Go.Value.int IntKind.u8 z2,Go.Value.int IntKind.u8 z2,Go.Value.int IntKind.u8 z2,Go.Value.int IntKind.u8 z2,Go.Value.int IntKind.u8 z2,Go.Value.int IntKind.u8 z2,Go.Value.int IntKind.u8 z2,Go.Value.int J z2,Go.Value.int J z2,Go.Value.int J z2,Go.Value.int J z2,Go.Value.int J z2,Go.Value.slice Option.none z5 z5,Go.Value.int J z2,Go.Value.int J z2,Go.Value.slice Option.none z5 z5,Go.Value.slice Option.none z5 z5,Go.Value.int J z2,Go.Value.int J z2,Go.Value.int J z2,Go.Value.int J z2,Go.Value.int J z2,Go.Value.int J z2,Go.Value.bool false,Go.Value.bool false,Go.Value.int IntKind.u8 z2,Go.Value.int J z2,Go.Value.bool false,Go.Value.bool false,Go.Value.bool false].length)) (Sx.selS (decide (z36<=z60-z5*z14/\z60-z5*z14<z36+z10)) z22 (Sx.selS (decide (z16<=z60-z5*z14/\z60-z5*z14<z16+[Go.Value.int J z2,Go.Value.int IntKind.u8 z2,Go.Value.int IntKind.u8 z2,Go.Value.int IntKind.u8 z2,Go.Value.int IntKind.u8 z2,Go.Value.int IntKind.u8 z2,Go.Value.int IntKind.u8 z2,Go.Value.int IntKind.u8 z2,Go.Value.int IntKind.u8 z2,Go.Value.int J z2,Go.Value.int J z2,Go.Value.int J z2,Go.Value.int J z2,Go.Value.int J z2,Go.Value.slice Option.none z5 z5,Go.Value.int J z2,Go.Value.int J z2,Go.Value.slice Option.none z5 z5,Go.Value.slice Option.none z5 z5,Go.Value.int J z2,Go.Value.int J z2,Go.Value.int J z2,Go.Value.int J z2,Go.Value.int J z2,Go.Value.int J z2,Go.Value.bool false,Go.Value.bool false].length)) (Sx.selS (decide (z10<=z60-z5*z14-z16/\z60-z5*z14-z16<z10+z18)) (Sx.lst z49 (z5+(z60-z5*z14-z16-z10))) Sx.SV.any) z27)) z27)) (Sx.lst z52 z60))/\Sx.SVle [] [] (Sx.selS z70 (Sx.lst z51 z61) (Sx.selS (decide (z5*z14<=z61/\z61<z5*z14+[Go.Value.int J z2,Go.Value.slice Option.none z5 z5,Go.Value.int J z2,Go.Value.int IntKind.u8 z2,Go.Value.int IntKind.u8 z2,Go.Value.int IntKind.u8 z2,Go.Value.int IntKind.u8 z2,Go.Value.int IntKind.u8 z2,Go.Value.int IntKind.u8 z2,Go.Value.int IntKind.u8 z2,Go.Value.int IntKind.u8 z2,Go.Value.int J z2,Go.Value.int J z2,Go.Value.int J z2,Go.Value.int J z2,Go.Value.int J z2,Go.Value.slice Option.none z5 z5,Go.Value.int J z2,Go.Value.int J z2,Go.Value.slice Option.none z5 z5,Go.Value.slice Option.none z5 z5,Go.Value.int J z2,Go.Value.int J z2,Go.Value.int J z2,Go.Value.int J z2,Go.Value.int J z2,Go.Value.int J z2,Go.Value.bool false,Go.Value.bool false,Go.Value.int IntKind.u8 z2,Go.Value.int J z2,Go.Value.bool false,Go.Value.bool false,Go.Value.bool false].length)) (Sx.selS (decide (z36<=z61-z5*z14/\z61-z5*z14<z36+z10)) z22 (Sx.selS (decide (z16<=z61-z5*z14/\z61-z5*z14<z16+[Go.Value.int J z2,Go.Value.int IntKind.u8 z2,Go.Value.int IntKind.u8 z2,Go.Value.int IntKind.u8 z2,Go.Value.int IntKind.u8 z2,Go.Value.int IntKind.u8 z2,Go.Value.int IntKind.u8 z2,Go.Value.int IntKind.u8 z2,Go.Value.int IntKind.u8 z2,Go.Value.int J z2,Go.Value.int J z2,Go.Value.int J z2,Go.Value.int J z2,Go.Value.int J z2,Go.Value.slice Option.none z5 z5,Go.Value.int J z2,Go.Value.int J z2,Go.Value.slice Option.none z5 z5,Go.Value.slice Option.none z5 z5,Go.Value.int J z2,Go.Value.int J z2,Go.Value.int J z2,Go.Value.int J z2,Go.Value.int J z2,Go.Value.int J z2,Go.Value.bool false,Go.Value.bool false].length)) (Sx.selS (decide (z10<=z61-z5*z14-z16/\z61-z5*z14-z16<z10+z18)) (Sx.lst z49 (z5+(z61-z5*z14-z16-z10))) Sx.SV.any) z27)) z27)) (Sx.lst z52 z61)))/\True))/\∀ g_3:Unit,(otC g).pre g_3->T3 ((((z30/\A (z9+z10=z9+z10)/\∀ i:Nat,i<z9+z10->(Lsg.qT True (g.S.it i) (g.S.it i)))/\z62/\z63/\True)/\A (Lto.LsU8 z19))/\T5 (T3 (True/\((z17/\z62/\z63/\True)/\A (Lck.ai3 (Rga.Rg.mk g.N.length (Rga.rI g.N))=z2/\g.N.length<=z72))/\T5 (T5 (True/\True/\K (decide (z0.e=z2)) (True/\True/\K (decide z42.is) (T5 (K (decide (z0.v (z5+z5)=vlp g.L.ni z18 g.v z5)&&(decide (z0.v (z5+(z5+z10))=vlp g.L.ni z18 g.v z10)&&(decide (z0.v z73=vlp g.L.ni z18 g.v z16)&&(decide (z0.v z69=vlp g.L.ni z18 g.v z44)&&(decide (z0.v z53=vlp g.L.ni z18 g.v z45)&&(decide (z0.v z43=vlp g.L.ni z18 g.v z46)&&(decide (z0.v z37=vlp g.L.ni z18 g.v z47)&&(decide (z0.v z32=vlp g.L.ni z18 g.v z48)&&true)))))))) (T3 (True/\A (true=true))) (T3 (K (!decide z42.is) z8 z65)))) (T5 (K (!decide z42.is) z8 z65))) (T3 (A (false=true)))))))))))))) (by kernel_rfl) ?_
 delta Lsg.qG Lsg.qI Lsg.qM Lsg.qS Lsg.qT
 simp only [OtG.T,tiny_it,tiny_nm,strOf_str]
 simp only [tiny_fold,S_fold]
 simp only [tiny_n,tiny_w,tiny_h]
 simp only [aa4,aa8,eq_self,true_and,and_true,implies_true,forall_const,decide_eq_true_eq,decide_eq_false_iff_not,ne_eq,Nat.mul_one,Nat.add_zero,Nat.zero_add]
 have hw:1<=(ag3 g.L).w/\(ag3 g.L).w<=2:=ao8 g.L.w 1 2 (by decide)
 have hh:1<=(ag3 g.L).h/\(ag3 g.L).h<=2:=ao8 g.L.h 1 2 (by decide)
 have hX:0<=OtG.X g/\OtG.X g<=16*(ag3 g.L).w-1:=ao8 g.x 0 (16*(ag3 g.L).w-1) (by omega)
 have hY:0<=OtG.Y g/\OtG.Y g<=16*(ag3 g.L).h-1:=ao8 g.y 0 (16*(ag3 g.L).h-1) (by omega)
 have hle:(ag3 g.L).n<=g.L.n/\(ag3 g.L).n<=12:=by unfold ag3; simp only; split<;>omega
 have hu:LsU8 (ag3 g.L):=ls_u8 fun i hi=>hL i (Nat.lt_of_lt_of_le hi hle.1)
 refine ⟨hu.nr,fun hc=>?_⟩
 have h0:chkL (ag3 g.L)=0:=Classical.not_not.1 (of_decide_eq_false hc)
 have hck:=aZ5 h0
 have hni:1<=g.L.ni/\g.L.ni<=8:=hck.ni
 have hvld:vld g.N:=ofSet_vld _
 have hr:ai3 ⟨g.N.length,rI g.N⟩=0:=rg_of_vld hvld
 have hNl:g.N.length<=9223372036854775807:=by have:=vld_len hvld; omega
 obtain ⟨he,heS,hvS⟩:=at_snoc (T:=ag3 g.L) (v:=g.V) h0 (by omega) hr (cut_few g.L.ni g.v) hX hY
 refine ⟨⟨⟨g.L.ni,⟨h0,Nat.le_refl _,hni.2⟩,by omega,?_⟩,fun i hi=>?_⟩,fun _ _=>⟨⟨⟨by show (1:Int)<=25; decide,by show (25:Int)<=1000; decide⟩,hR⟩,by omega,by omega,by omega,by omega,by omega,by omega,⟨hu,(),h0,?_⟩,fun _ _=>⟨⟨by omega,⟨by omega,by omega⟩,(),h0,fun i hi=>?_⟩,fun _ _=>?_⟩⟩⟩
 ·exact all8 (p:=fun j=>inkF g.v j=vlp g.L.ni g.L.ni g.v j) fun j _=>(vlp_start _ _ _).symm
 ·obtain ⟨-,i1,i2⟩:=hi
  have i1:g.L.ni<=i:=i1
  have ei:((i:Int)).toNat=i:=rfl
  rw [ei]
  refine ⟨fun hlt=>⟨by omega,fun hc=>absurd hc (by omega),by omega,i+1,⟨h0,by show g.L.ni<=i+1; omega,by omega⟩,⟨by omega,?_⟩,by show 8-(i+1)<8-i; omega⟩,fun hge=>⟨(),h0,?_⟩⟩
  ·exact all8 (p:=fun j=>(bif decide (i<=j/\j<i+1) then 0 else vlp g.L.ni i g.v j)=vlp g.L.ni (i+1) g.v j) fun j _=>vlp_next i1 _ _
  ·obtain rfl:i=8:=by omega
   exact all8 (p:=fun j=>vlp g.L.ni 8 g.v j=vlp g.L.ni 8 g.v j) fun j _=>rfl
 ·exact ⟨⟨⟨rfl,fun _ _=>⟨⟨rfl,rfl⟩,rfl⟩⟩,rfl,rfl,he⟩,all8 (p:=fun j=>AtL.v ⟨ag3 g.L,cutI g.x 0 (16*(ag3 g.L).w-1),cutI g.y 0 (16*(ag3 g.L).h-1)⟩ j=g.was j) fun j _=>rfl⟩
 ·by_cases hlt:i<(ag3 g.L).n
  ·have e:g.S.it i=g.L.it i:=ar8 (L:=ag3 g.L) hlt
   rw [e]
   simp only [decide_eq_true hlt,cond_true]
   repeat' first | exact rfl | exact ⟨rfl⟩ | exact True.intro | apply And.intro | intro _
  ·obtain rfl:i=(ag3 g.L).n:=by omega
   have e:g.S.it (ag3 g.L).n=g.I:=at3 (ag3 g.L) g.I
   rw [e]
   simp only [decide_eq_false hlt,cond_false]
   repeat' first | exact rfl | exact ⟨rfl⟩ | exact True.intro | apply And.intro | intro _
 ·refine ⟨u8_snoc hu (cut_u8 hv) hNl,⟨hr,hNl⟩,fun _=>⟨fun hin hc=>?_,fun hin=>⟨fun _=>?_,fun hc=>?_⟩⟩,fun hc=>absurd heS (of_decide_eq_false hc)⟩
  ·exfalso
   have ev:∀ j,j<8->AtL.v ⟨g.S,g.X,g.Y⟩ j=vlp g.L.ni 8 g.v j:=fun j hj=>((hvS j hj).trans (if_pos hin)).trans (cut_f hj)
   simp only [ev 0 (by decide),ev 1 (by decide),ev (1+1) (by decide),ev (1+1+1) (by decide),ev (1+1+1+1) (by decide),ev (1+1+1+1+1) (by decide),ev (1+1+1+1+1+1) (by decide),ev (1+1+1+1+1+1+1) (by decide),decide_true,Bool.and_self] at hc
   exact Bool.noConfusion hc
  ·have ev:∀ j,j<8->AtL.v ⟨g.S,g.X,g.Y⟩ j=g.was j:=fun j hj=>(hvS j hj).trans (if_neg hin)
   simp only [ev 0 (by decide),ev 1 (by decide),ev (1+1) (by decide),ev (1+1+1) (by decide),ev (1+1+1+1) (by decide),ev (1+1+1+1+1) (by decide),ev (1+1+1+1+1+1) (by decide),ev (1+1+1+1+1+1+1) (by decide),decide_true,Bool.and_self]
  ·rw [decide_eq_false hin] at hc
   exact Bool.noConfusion hc
end Go.Proofs.YthappngbapbkfaaGreat.Lot
