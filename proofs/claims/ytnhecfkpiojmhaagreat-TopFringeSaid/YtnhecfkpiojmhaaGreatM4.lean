import Derived.Test.YtnhecfkpiojmhaaGreatM3
set_option linter.all false
/- Part 4. -/
namespace Go.Proofs.YtnhecfkpiojmhaaGreat
namespace Sx
open Go.RowKit
def isCells:SO->Bool
 |.cells ..=>true
 |.scells ..=>true
 |.cus _=>true
 |_=>false
def aj2:SO->Option Nat
 |.row ver _ _ _ _=>some ver
 |.srow ver _ _ _=>some ver
 |.deep ver _ _ _ _ _ _ _ _ _=>some ver
 |.mpi ..=>some 0
 |.mps ..=>some 0
 |_=>none
def isMap:SO->Bool
 |.mpi ..=>true
 |.mps ..=>true
 |_=>false
theorem aW9{so:SO}(h:isMap so=true):aj2 so=some 0:=by cases so<;>first|rfl|cases h
def allK(kk:KK)(p:List Int->Prop):Prop:=match kk with
 |.one _=>∀x:Int,p [x]
 |.arr n _=>∀l:List Int,l.length=n->p l
theorem bx1{kk:KK}{p:List Int->Prop}(h:allK kk p)(l:List Int)(hl:l.length=kk.len):p l:=by
 cases kk with
 |one k=>
  match l,hl with
  | [x],_=>exact h x
 |arr n k=>exact h l hl
def SVle(H H':List SO)(s t:SV):Prop:=
 match t with
 |.any=>True
 |.int k n=>match s with|.int k' n'=>Aq (k'=k)/\Aq (n'=n)|_=>False
 |.bool b=>match s with|.bool b'=>Aq (b'=b)|.lit b'=>Aq (b'=b)|_=>False
 |.lit b=>match s with|.bool b'=>Aq (b'=b)|.lit b'=>Aq (b'=b)|_=>False
 |.str x=>match s with|.str x'=>Aq (x'=x)|_=>False
 |.nilfn=>match s with|.nilfn=>True|_=>False
 |.cap0=>match s with|.cap0=>True|_=>False
 |.fn f n g=>match s with|.fn f' n' g'=>if n'=n then Aq (f'=f)/\allN n λi=>SVle H H' (g' i) (g i)else False|_=>False
 |.fnb f n g=>match s with|.fnb f' n' g'=>if n'=n then Aq (f'=f)/\allN n λi=>SVle H H' (g' i) (g i)else False|_=>False
 |.agg n g=>match s with|.agg n' g'=>if n'=n then allN n λi=>SVle H H' (g' i) (g i)else False|_=>False
 |.tup n g=>match s with|.tup n' g'=>if n'=n then allN n λi=>SVle H H' (g' i) (g i)else False|_=>False
 |.sl len n g=>match s with
  |.sl len' n' g'=>if n'=n then Aq (len'=len)/\∀i<len,allN n λj=>SVle [] [] (g' i j) (g i j)else False
  |.slN len' n' g'=>if n'=n then Aq (len'=len)/\∀i<len,allN n λj=>SVle [] [] (g' i j) (g i j)else False
  |.cap0=>Aq (len=0)
  |.nilsl=>Aq (len=0)
  |_=>False
 |.nilsl=>match s with|.nilsl=>True|_=>False
 |.slN ..=>False
 |.ref n g=>match s with|.ref n' g'=>if n<=n' then allN n λi=>SVle [] [] (g' i) (g i)else False|_=>False
 |.own k off=>match s with|.own k' off'=>if k'=k/\isCells (H'.getD k .dead)=true then Aq (off'=off)else False|_=>False
 |.osl k ver=>match s with|.osl k' ver'=>if k'=k/\aj2 (H.getD k .dead)=some ver'/\aj2 (H'.getD k .dead)=some ver then True else False|_=>False
 |.ownAt k ver i n off=>match s with|.ownAt k' ver' i' n' off'=>if(k'=k/\n'=n)/\aj2 (H.getD k .dead)=some ver'/\aj2 (H'.getD k .dead)=some ver then Aq (i'=i)/\Aq (off'=off)else False|_=>False
 |.con v=>match s with|.con v'=>Aq (v'=v)|_=>False
 |.part ..=>False
 |.pin k b=>match s with|.pin k' b'=>if k'=k/\isCells (H'.getD k .dead)=true then Aq (b'=b)else False|_=>False
 |.slP n g=>match s with|.slP n' g'=>if n'=n then allN n λi=>SVle H H' (g' i) (g i)else False|_=>False
 |.refP g=>match s with|.refP g'=>SVle H H' (g' 0) (g 0)|_=>False
 |.ifc T g=>match s with|.ifc T' g'=>Aq (T'=T)/\SVle H H' (g' 0) (g 0)|_=>False
 |.omap k=>match s with|.omap k'=>if k'=k/\isMap (H.getD k .dead)=true/\isMap (H'.getD k .dead)=true then True else False|_=>False
 |.win k ver n lo len=>match s with|.win k' ver' n' lo' len'=>if(k'=k/\n'=n)/\aj2 (H.getD k .dead)=some ver'/\aj2 (H'.getD k .dead)=some ver then Aq (lo'=lo)/\Aq (len'=len)else False|_=>False
theorem ab6{c:Prop}[Decidable c]{p:Prop}(h:if c then p else False):c/\p:=by
 by_cases hc:c
 ·rw[ll hc]at h;exact⟨hc,h⟩
 ·rw[lu hc]at h;exact h.elim
theorem aC6{α:Type}{c:Prop}[Decidable c]{a:Option α}{b:α}(h:(if c then a else none)=some b):c/\a=some b:=by
 by_cases hc:c
 ·rw[ll hc]at h;exact⟨hc,h⟩
 ·rw[lu hc]at h;cases h
def Env.cut(E:Env)(H':List SO):Env:=λk=>if k<H'.length then match E k with
 |some (.blk b)=>some (.blk b)
 |some (.slc _ v us)=>some (.slc ((aj2 (H'.getD k .dead)).getD 0) v us)
 |none=>none
 else none
theorem ae5{H:List SO}{k:Nat}(h:¬ k<H.length):H.getD k .dead=.dead:=by rw[la,xC (uM.1 h)];rfl
theorem bp6{E:Env}{H':List SO}{k b:Nat}(h:E k=some (.blk b))(hk:k<H'.length):E.cut H' k=some (.blk b):=by simp only[Env.cut,ll hk,h]
theorem a99{E:Env}{H':List SO}{k ver ver':Nat}{v:Value}{us:Nat->Option Nat}(h:E k=some (.slc ver v us))(hv:aj2 (H'.getD k .dead)=some ver'):E.cut H' k=some (.slc ver' v us):=by
 have hk:k<H'.length:=lz λhc=>by rw[ae5 hc]at hv;cases hv
 simp only[Env.cut,ll hk,h,hv,lZ]
theorem by0(H:List SO):E0.cut H=E0:=by
 funext k;simp[Env.cut,E0]
theorem ah1{w:World}{X X':Nat->Prop}(hx:∀b,X' b->X b){H H':List SO}:∀{E:Env}{s t:SV}{v:Value},(∀k ver v us,E k=some (.slc ver v us)->∀ver',aj2 (H.getD k .dead)=some ver'->ver'=ver)->SVle H H' s t->R w X E s v->R w X' (E.cut H') t v:=by
 intro E s t;induction t generalizing E s H H' with
 |any=>intro v _ _ _;exact .any
 |int k n=>intro v _ hl hr;cases hr<;>simp only[SVle]at hl;obtain⟨⟨rfl⟩,⟨rfl⟩⟩:=hl;exact .int
 |bool b=>intro v _ hl hr;cases hr<;>simp only[SVle]at hl<;>(obtain⟨rfl⟩:=hl;exact .bool)
 |lit b=>intro v _ hl hr;cases hr<;>simp only[SVle]at hl<;>(obtain⟨rfl⟩:=hl;exact .lit)
 |str x=>intro v _ hl hr;cases hr<;>simp only[SVle]at hl;obtain⟨rfl⟩:=hl;exact .str
 |nilfn=>intro v _ hl hr;cases hr<;>simp only[SVle]at hl;exact .nilfn
 |cap0=>intro v _ hl hr;cases hr<;>simp only[SVle]at hl;exact .cap0
 |fn f n g ih=>
  intro v hE hl hr;cases hr<;>simp only[SVle]at hl
  rename_i hs hr;obtain⟨rfl,⟨rfl⟩,hl2⟩:=ab6 hl;exact .fn hs λi hi=>ih i hE (af1 hl2 i hi) (hr i hi)
 |fnb f n g ih=>
  intro v hE hl hr;cases hr<;>simp only[SVle]at hl
  rename_i hs hr;obtain⟨rfl,⟨rfl⟩,hl2⟩:=ab6 hl;exact .fnb hs λi hi=>ih i hE (af1 hl2 i hi) (hr i hi)
 |agg n g ih=>
  intro v hE hl hr;cases hr<;>simp only[SVle]at hl
  rename_i hs ho hr;obtain⟨rfl,hl2⟩:=ab6 hl;exact .agg hs ho λi hi=>ih i hE (af1 hl2 i hi) (hr i hi)
 |tup n g ih=>
  intro v hE hl hr;cases hr<;>simp only[SVle]at hl
  rename_i hs hr;obtain⟨rfl,hl2⟩:=ab6 hl;exact .tup hs λi hi=>ih i hE (af1 hl2 i hi) (hr i hi)
 |sl len n g ih=>
  intro v hE hl hr;have onSl:∀{len' n':Nat}{g':Nat->Nat->SV}{v:Value},(if n'=n then Aq (len'=len)/\∀i<len,allN n λj=>SVle [] [] (g' i j) (g i j)else False)->R w X E (.sl len' n' g') v->R w X' (E.cut H') (.sl len n g) v:=by
   intro len' n' g' v hl hr;cases hr with
   |sl0=>obtain⟨rfl,⟨rfl⟩,hl2⟩:=ab6 hl;exact .sl0
   |sl hb hX hc hlc ho hr=>
    obtain⟨rfl,⟨rfl⟩,hl2⟩:=ab6 hl;refine .sl hb (λh=>hX (hx _ h)) hc hlc ho λi j hi hj=>?_
    have:=ih i j (E:=E0) (λk ver v us h=>by cases h) (af1 (hl2 i hi) j hj) (hr i j hi hj)
    rw[by0]at this;exact this
  cases s<;>simp only[SVle]at hl
  ·cases hr;obtain⟨rfl⟩:=hl;exact .sl0
  ·exact onSl hl hr
  ·cases hr;obtain⟨rfl⟩:=hl;exact .sl0
  ·cases hr with|slN hr=>exact onSl hl hr
 |nilsl=>intro v _ hl hr;cases hr<;>simp only[SVle]at hl;exact .nilsl
 |slN=>intro v _ hl _;simp only[SVle]at hl
 |ref n g ih=>
  intro v hE hl hr;cases hr<;>simp only[SVle]at hl
  rename_i hb hX hc ho hr;obtain⟨hn,hl2⟩:=ab6 hl;refine .ref hb (λh=>hX (hx _ h)) (by omega) (λj hj=>ho j (by omega)) λj hj=>?_
  have:=ih j (E:=E0) (λk ver v us h=>by cases h) (af1 hl2 j hj) (hr j (by omega))
  rw[by0]at this;exact this
 |own k off=>
  intro v _ hl hr;cases hr<;>simp only[SVle]at hl
  rename_i he;obtain⟨⟨rfl,hc⟩,⟨rfl⟩⟩:=ab6 hl;exact .own (bp6 he (lz λhk=>by rw[ae5 hk]at hc;cases hc))
 |osl k ver=>
  intro v hE hl hr;cases hr<;>simp only[SVle]at hl
  ·obtain⟨⟨rfl,h1,h2⟩,hu⟩:=ab6 hl;rename_i hv he;exact .osl (a99 he h2) hv
  ·obtain⟨⟨rfl,h1,h2⟩,hu⟩:=ab6 hl;have:=hE _ _ _ _ (by assumption) _ h1
   omega
 |ownAt k ver i n off=>
  intro v hE hl hr;cases hr<;>simp only[SVle]at hl
  ·obtain⟨⟨⟨rfl,rfl⟩,h1,h2⟩,⟨rfl⟩,⟨rfl⟩⟩:=ab6 hl;rename_i he;exact .ownAt (a99 he h2)
  ·obtain⟨⟨⟨rfl,rfl⟩,h1,h2⟩,hu⟩:=ab6 hl;have:=hE _ _ _ _ (by assumption) _ h1
   omega
 |con x=>intro v _ hl hr;cases hr<;>simp only[SVle]at hl;obtain⟨rfl⟩:=hl;exact .con
 |part=>intro v _ hl _;simp only[SVle]at hl
 |pin k b=>
  intro v _ hl hr;cases hr<;>simp only[SVle]at hl
  rename_i he;obtain⟨⟨rfl,hc⟩,⟨rfl⟩⟩:=ab6 hl;exact .pin (bp6 he (lz λhk=>by rw[ae5 hk]at hc;cases hc))
 |slP n g ih=>
  intro v hE hl hr;cases hr<;>simp only[SVle]at hl
  rename_i hb hX hc hlc ho hr;obtain⟨rfl,hl2⟩:=ab6 hl;exact .slP hb (λh=>hX (hx _ h)) hc hlc ho λi hi=>ih i hE (af1 hl2 i hi) (hr i hi)
 |refP g ih=>
  intro v hE hl hr;cases hr<;>simp only[SVle]at hl
  rename_i hb hX hc ho hr;exact .refP hb (λh=>hX (hx _ h)) hc ho (ih 0 hE hl hr)
 |ifc T g ih=>
  intro v hE hl hr;cases hr<;>simp only[SVle]at hl
  rename_i ho hr;obtain⟨⟨rfl⟩,hl2⟩:=hl;exact .ifc ho (ih 0 hE hl2 hr)
 |omap k=>
  intro v hE hl hr;cases hr<;>simp only[SVle]at hl
  ·rename_i he;obtain⟨⟨rfl,h1,h2⟩,_⟩:=ab6 hl;exact .omap (a99 he (aW9 h2))
  ·obtain⟨⟨rfl,h1,h2⟩,_⟩:=ab6 hl;have:=hE _ _ _ _ (by assumption) _ (aW9 h1)
   omega
 |win k ver n lo len=>
  intro v hE hl hr;cases hr<;>simp only[SVle]at hl
  ·rename_i he;obtain⟨⟨⟨rfl,rfl⟩,h1,h2⟩,⟨rfl⟩,⟨rfl⟩⟩:=ab6 hl;exact .win (a99 he h2) (by assumption) (by assumption) (by assumption)
  ·obtain⟨⟨⟨rfl,rfl⟩,h1,h2⟩,_⟩:=ab6 hl;have:=hE _ _ _ _ (by assumption) _ h1
   omega
def SOle(H H':List SO)(s t:SO):Prop:=
 match t with
 |.dead=>True
 |.cells n g T=>match s with|.cells n' g' T'=>if n'=n/\T'=T then allN n λi=>SVle H H' (g' i) (g i)else False|_=>False
 |.scells n g=>match s with|.scells n' g'=>if n'=n then allN n λi=>SVle [] [] (g' i) (g i)else False|_=>False
 |.row _ len n g T=>match s with|.row _ len' n' g' T'=>if n'=n/\T'=T then Aq (len'=len)/\∀i<len,allN n λj=>SVle [] [] (g' i j) (g i j)else False|_=>False
 |.srow _ len n g=>match s with|.srow _ len' n' g'=>if n'=n then Aq (len'=len)/\∀i<len,allN n λj=>SVle [] [] (g' i j) (g i j)else False|_=>False
 |.deep _ len n c m p g T T' ho=>match s with
  |.deep _ len' n' c' m' p' g' T1 T1' ho'=>match ho,ho' with
   |none,none=>if(n'=n/\c'=c)/\T1=T/\T1'=T' then Aq (len'=len)/\(∀i<len,Aq (m' i=m i)/\∀i'<m i,allN c λj=>SVle [] [] (p' i i' j) (p i i' j))/\∀i<len,allN (n-1) λj=>SVle [] [] (g' i (j+1)) (g i (j+1))else False
   |some q,some q'=>if(n'=n/\c'=c)/\T1=T/\T1'=T' then Aq (len'=len)/\(Aq (q'.1=q.1)/\SVle H H' q'.2 q.2)/\(∀i<len,i≠q.1->Aq (m' i=m i)/\∀i'<m i,allN c λj=>SVle [] [] (p' i i' j) (p i i' j))/\∀i<len,allN (n-1) λj=>SVle [] [] (g' i (j+1)) (g i (j+1))else False
   |_,_=>False
  |_=>False
 |.mpi kk tot has val=>match s with
  |.mpi kk' tot' has' val'=>if kk'=kk/\tot'=tot then allK kk λl=>Aq (has' l=has l)/\((has l||tot)=true->SVle [] [] (val' l) (val l))else False
  |_=>False
 |.mps kd has c m p T' ho=>match s with
  |.mps kd' has' c' m' p' T1 ho'=>match ho,ho' with
   |none,none=>if(kd'=kd/\c'=c)/\T1=T' then∀y:Int,Aq (has' y=has y)/\Aq (m' y=m y)/\∀i<m y,allN c λj=>SVle [] [] (p' y i j) (p y i j)else False
   |_,_=>False
  |_=>False
 |.cus Q=>match s with
  |.cus Q'=>CusLe Q' Q
  |_=>False
def bT3(H H':List SO):List SO->List SO->Prop
 |_,[]=>True
 | [],t::r=>SOle H H' .dead t/\bT3 H H' [] r
 |s::l,t::r=>SOle H H' s t/\bT3 H H' l r
def b97(H H':List SO)(τ:Tmps):Tmps->Prop
 | []=>True
 |(t,s)::r=>SVle H H' (ac5 τ t) s/\b97 H H' τ r
def StLe(s t:St):Prop:=b97 s.H t.H s.τ t.τ/\bT3 s.H t.H s.H t.H
theorem aT5{H H':List SO}:∀{l r:List SO},bT3 H H' l r->∀k,SOle H H' (l.getD k .dead) (r.getD k .dead)
 |l,[],_,k=>by simp[SOle]
 | [],t::r,h,0=>h.1
 | [],t::r,h,k+1=>by have:=aT5 h.2 k;simpa using this
 |s::l,t::r,h,0=>h.1
 |s::l,t::r,h,k+1=>by have:=aT5 h.2 k;simpa using this
theorem ao8{H H':List SO}{τ:Tmps}:∀{r:Tmps},b97 H H' τ r->∀t,SVle H H' (ac5 τ t) (ac5 r t)
 | [],_,t=>by simp[ac5,SVle]
 |(u,s)::r,h,t=>by
  simp only[ac5];split
  ·rename_i hu;subst hu;exact h.1
  ·exact ao8 h.2 t
theorem ax4{w X E v us}{ver:Nat}{so:SO}(h:EIok w X E (.slc ver v us) so){ver':Nat}(hr:aj2 so=some ver'):ver'=ver:=by
 cases so<;>simp only[aj2,sk,reduceCtorEq]at hr
 ·subst hr;exact h.1.symm
 ·subst hr;exact h.1.symm
 ·subst hr;exact h.1.symm
 ·subst hr;exact h.1.symm
 ·subst hr;exact h.1.symm
def verB(s t:SO):Bool:=match s with
 |.cells ..=>true
 |.scells ..=>true
 |.row v ..=>match aj2 t with
  |some (_+1)=>true
  |_=>Nat.beq v 0
 |.srow v ..=>match aj2 t with
  |some (_+1)=>true
  |_=>Nat.beq v 0
 |.deep v ..=>match aj2 t with
  |some (_+1)=>true
  |_=>Nat.beq v 0
 |.mpi ..=>true
 |.mps ..=>true
 |.cus _=>false
 |.dead=>false
def NmLe(m:Nat)(H H':List SO):Prop:=match Nat.ble m H'.length&&(List.range m).all λk=>verB (H.getD k .dead) (H'.getD k .dead)with
 |true=>True
 |false=>False
def as9(m:Nat)(H H':List SO)(p:Prop):Prop:=match m with
 |0=>p
 |m+1=>NmLe (m+1) H H'/\p
theorem NmLe.get{m H H'}(h:NmLe m H H'):m<=H'.length/\∀k<m,verB (H.getD k .dead) (H'.getD k .dead)=true:=by
 unfold NmLe at h;split at h
 ·rename_i hb;rw[lr]at hb;exact⟨lN hb.1,λk hk=>ad1 hb.2 hk⟩
 ·exact h.elim
theorem as9.get{m H H' p}(h:as9 m H H' p):NmLe m H H'/\p:=by
 cases m with
 |zero=>exact⟨by simp[NmLe,uI (lB _)],h⟩
 |succ m=>exact h
theorem Rep.le{w0 X0 H H' E w}(hrep:Rep w0 X0 H E w)(h2:bT3 H H' H H'){m:Nat}(hnm:∀k,X0.nm k≠none->k<m)(hm:NmLe m H H'):
  Rep w0 X0 H' (E.cut H') w/\∀b,Xo X0 (E.cut H') H' b->Xo X0 E H b:=by
 obtain⟨hm1,hm2⟩:=hm.get;have hget:=aT5 h2;have cutS:∀k e,(E.cut H') k=some e->∃e0,E k=some e0/\holds e (H'.getD k .dead)=holds e0 (H.getD k .dead)\/(∀b,¬ holds e (H'.getD k .dead) b)\/(E k=some e0/\∀b,holds e (H'.getD k .dead) b->holds e0 (H.getD k .dead) b):=by
  intro k e he;have hg:=hget k;simp only[Env.cut]at he;obtain⟨hk,he⟩:=aC6 he;cases hE:E k with
  |none=>simp[hE]at he
  |some e0=>
   refine⟨e0,?_⟩;have hok:=hrep.ok k e0 hE;rw[hE]at he;generalize H.getD k .dead=so at hg hok;generalize H'.getD k .dead=to at hg he;cases e0 with
   |blk b=>
    simp only[sk]at he;subst he;cases to<;>simp only[SOle]at hg
    ·right;left;exactλ_ h=>h
    ·cases so<;>simp only at hg;left;exact⟨rfl,rfl⟩
    ·right;left;exactλ_ h=>h
    ·cases so<;>simp only at hg;exact hok.elim
    ·cases so<;>simp only at hg;exact hok.elim
    ·cases so<;>simp only at hg;exact hok.elim
    ·cases so<;>simp only at hg;exact hok.elim
    ·cases so<;>simp only at hg;exact hok.elim
    ·cases so<;>simp only at hg;right;right;exact⟨rfl,hg.blk⟩
   |slc ver v us=>
    simp only[sk]at he;subst he;cases to<;>simp only[SOle]at hg
    ·right;left;exactλ_ h=>h
    ·cases so<;>simp only at hg;exact hok.elim
    ·cases so<;>simp only at hg;exact hok.elim
    ·cases so<;>simp only at hg
     left;exact⟨rfl,rfl⟩
    ·right;left;exact aG3 _ _ _ _ _
    ·cases so<;>simp only at hg
     left;split at hg
     case h_3=>exact hg.elim
     case h_2 q q'=>
      obtain⟨_,⟨rfl⟩,⟨⟨hq⟩,_⟩,_⟩:=ab6 hg;refine⟨rfl,?_⟩;funext b;have hh:∀i,(hoAt (some q) i=none<->hoAt (some q') i=none):=λi=>by
       obtain⟨a,x⟩:=q;obtain⟨a',x'⟩:=q';have hq:a'=a:=hq;subst hq;unfold hoAt;simp only
       split<;>simp
      simp only[holds,hh]
     obtain⟨_,⟨rfl⟩,_⟩:=ab6 hg;exact⟨rfl,rfl⟩
    ·cases so<;>simp only at hg
     left;exact⟨rfl,rfl⟩
    ·cases so<;>simp only at hg
     left;split at hg
     case h_2=>exact hg.elim
     exact⟨rfl,rfl⟩
    ·cases so<;>simp only at hg;exact hok.elim
 have cutH:∀k e b,(E.cut H') k=some e->holds e (H'.getD k .dead) b->∃e0,E k=some e0/\holds e0 (H.getD k .dead) b:=by
  intro k e b he hb;obtain⟨e0,h|h|h⟩:=cutS k e he
  ·exact⟨e0,h.1,by rw[<-h.2];exact hb⟩
  ·exact(h b hb).elim
  ·exact⟨e0,h.1,h.2 b hb⟩
 have hx:∀b,Xo X0 (E.cut H') H' b->Xo X0 E H b:=by
  rintro b (hb|⟨k,e,he,hh⟩)
  ·exact .inl hb
  ·obtain⟨e0,h3,h4⟩:=cutH k e b he hh;exact .inr ⟨k,e0,h3,h4⟩
 have hver:∀k ver v us,E k=some (.slc ver v us)->∀ver',aj2 (H.getD k .dead)=some ver'->ver'=ver:=λk ver v us he ver' hr=>ax4 (hrep.ok k _ he) hr
 have pure0:∀{sv tv:SV}{v:Value},SVle [] [] sv tv->R w (Xo X0 E H) E0 sv v->R w (Xo X0 (E.cut H') H') E0 tv v:=λhl hr=>by
  have:=ah1 hx (E:=E0) (λk ver v us h=>by cases h) hl hr
  rwa[by0]at this
 refine⟨⟨hrep.below,hrep.x0,λk e he=>?_,λk e he=>?_,λk e he=>?_,λk e b he hb=>?_,λk k' e e' b he he' hb hb'=>?_⟩,hx⟩
 ·have hk:k<m:=hnm k (by rw[he];simp);have hv:=hm2 k hk;have hok:=hrep.nm k e he;cases e with
  |blk b=>
   have hok':E k=some (.blk b):=hok;exact bp6 hok' (by omega)
  |slc ver0 v0 us0=>
   obtain⟨ver,v,us,h3,h4⟩:=hok;have hEI:=hrep.ok k _ h3;refine⟨(aj2 (H'.getD k .dead)).getD 0,v,us,by simp only[Env.cut,ll (show k<H'.length by omega),h3],λhz=>h4 ?_⟩;generalize H.getD k .dead=so at hEI hv;generalize H'.getD k .dead=to at hz hv;have fin:∀v',verB so to=true->aj2 so=some v'->v'=0:=by
    intro v' hb hr;cases so<;>simp only[aj2,reduceCtorEq,sk]at hr<;>subst hr<;>(try rfl)<;>simp only[verB]at hb
    ·split at hb
     ·rename_i q hq;rw[hq]at hz;simp at hz
     ·exact lK hb
    ·split at hb
     ·rename_i q hq;rw[hq]at hz;simp at hz
     ·exact lK hb
    ·split at hb
     ·rename_i q hq;rw[hq]at hz;simp at hz
     ·exact lK hb
   cases so with
   |dead=>cases hv
   |cells=>exact hEI.elim
   |scells=>exact hEI.elim
   |row ver' len n g T=>have:=hEI.1;have:=fin ver' hv rfl;omega
   |srow ver' len n g=>have:=hEI.1;have:=fin ver' hv rfl;omega
   |deep ver'=>have:=hEI.1;have:=fin ver' hv rfl;omega
   |mpi=>exact hEI.1
   |mps=>exact hEI.1
   |cus=>cases hv
 ·refine Nat.not_le.1 λhc=>?_
  simp only[Env.cut,lu (uM.2 hc)]at he;cases he
 ·have hg:=hget k;simp only[Env.cut]at he;obtain⟨hk,he⟩:=aC6 he;cases hE:E k with
  |none=>simp[hE]at he
  |some e0=>
   have hok:=hrep.ok k e0 hE;rw[hE]at he;generalize H.getD k .dead=so at hg hok;generalize H'.getD k .dead=to at hg he;cases e0 with
   |blk b=>
    simp only[sk]at he;subst he;cases to with
    |dead=>trivial
    |cells n g T=>
     cases so<;>simp only[SOle]at hg
     obtain⟨⟨rfl,rfl⟩,hg2⟩:=ab6 hg;obtain⟨vs,g1,g2,g3⟩:=hok;exact⟨vs,g1,g2,λi hi=>⟨(g3 i hi).1,ah1 hx hver (af1 hg2 i hi) (g3 i hi).2⟩⟩
    |scells n g=>
     cases so<;>simp only[SOle]at hg
     obtain⟨rfl,hg2⟩:=ab6 hg;obtain⟨vs,T,fr,g1,g2,g3,g4⟩:=hok;exact⟨vs,T,fr,g1,λhc=>g2 (hx _ hc),g3,λi hi=>⟨(g4 i hi).1,pure0 (af1 hg2 i hi) (g4 i hi).2⟩⟩
    |row=>cases so<;>simp only[SOle]at hg;exact hok.elim
    |srow=>cases so<;>simp only[SOle]at hg;exact hok.elim
    |deep=>cases so<;>simp only[SOle]at hg;exact hok.elim
    |mpi=>cases so<;>simp only[SOle]at hg;exact hok.elim
    |mps=>cases so<;>simp only[SOle]at hg;exact hok.elim
    |cus Q=>
     cases so<;>simp only[SOle]at hg
     exact Q.mono (λ_ _ _ _ hc _=>hc) (λb _ hb=>hx b hb) (hg.ok _ _ _ hok)
   |slc ver v us=>
    simp only[sk]at he;subst he;cases to with
    |dead=>trivial
    |cells=>cases so<;>simp only[SOle]at hg;exact hok.elim
    |scells=>cases so<;>simp only[SOle]at hg;exact hok.elim
    |row ver' len n g T=>
     cases so<;>simp only[SOle]at hg
     obtain⟨⟨rfl,rfl⟩,⟨rfl⟩,hg2⟩:=ab6 hg;obtain⟨g1,xs,g2,g3⟩:=hok;exact⟨rfl,xs,g2,λi j hi hj=>⟨(g3 i j hi hj).1,pure0 (af1 (hg2 i hi) j hj) (g3 i j hi hj).2⟩⟩
    |srow ver' len n g=>
     cases so<;>simp only[SOle]at hg
     rename_i ver'' len' n' g';refine⟨rfl,pure0 (sv:= .sl len' n' g') ?_ hok.2⟩;simp only[SVle];exact hg
    |deep ver' len n c m p g T T' ho=>
     cases so<;>simp only[SOle]at hg
     split at hg
     case h_3=>exact hg.elim
     case h_2 q q'=>
      obtain⟨⟨⟨rfl,rfl⟩,rfl,rfl⟩,⟨rfl⟩,⟨⟨hq⟩,hsv⟩,hg2,hg3⟩:=ab6 hg;obtain⟨g1,xs,d⟩:=hok;obtain⟨a,x⟩:=q;obtain⟨a',x'⟩:=q';have hq:a'=a:=hq;subst hq;have hno:∀i,hoAt (some (a',x)) i=none->a'≠i/\hoAt (some (a',x')) i=none:=λi hh=>by
       unfold hoAt at hh⊢;simp only at hh⊢
       split at hh
       ·cases hh
       ·rename_i hne;exact⟨hne,lu hne⟩
      refine⟨rfl,xs,d.pos,d.own,λi j hi h0 hj=>⟨(d.rest i j hi h0 hj).1,?_⟩,λi sv hi hh=>?_,λi hi hh=>?_,λi b hi hh=>d.apart i b hi (hno i hh).2,λi i' b hi hi' h1 h2=>d.inj i i' b hi hi' (hno i h1).2 (hno i' h2).2⟩
      ·have hl:=af1 (hg3 i hi) (j-1) (by omega);rw[show j-1+1=j by omega]at hl;exact pure0 hl (d.rest i j hi h0 hj).2
      ·unfold hoAt at hh;simp only at hh
       split at hh
       case isFalse=>cases hh
       rename_i hai;cases hh;have ho:=d.out i x' hi (by unfold hoAt;simp only;exact ll hai);exact⟨ho.1,ah1 hx hver hsv ho.2⟩
      ·obtain⟨q1,ys,q2,q3⟩:=d.inn i hi (hno i hh).2;obtain⟨⟨hm⟩,hp⟩:=hg2 i hi (λhc=>(hno i hh).1 hc.symm);rw[hm]at q2 q3;exact⟨q1,ys,q2,λi' j hi' hj=>⟨(q3 i' j hi' hj).1,pure0 (af1 (hp i' hi') j hj) (q3 i' j hi' hj).2⟩⟩
     obtain⟨⟨⟨rfl,rfl⟩,rfl,rfl⟩,⟨rfl⟩,hg2,hg3⟩:=ab6 hg;obtain⟨g1,xs,d⟩:=hok;refine⟨rfl,xs,d.pos,d.own,λi j hi h0 hj=>⟨(d.rest i j hi h0 hj).1,?_⟩,λi sv hi hh=>(nomatch hh),λi hi hh=>?_,d.apart,d.inj⟩
     ·have hl:=af1 (hg3 i hi) (j-1) (by omega);rw[show j-1+1=j by omega]at hl;exact pure0 hl (d.rest i j hi h0 hj).2
     ·obtain⟨q1,ys,q2,q3⟩:=d.inn i hi rfl;obtain⟨⟨hm⟩,hp⟩:=hg2 i hi;rw[hm]at q2 q3;exact⟨q1,ys,q2,λi' j hi' hj=>⟨(q3 i' j hi' hj).1,pure0 (af1 (hp i' hi') j hj) (q3 i' j hi' hj).2⟩⟩
    |mpi kk tot has val=>
     cases so<;>simp only[SOle]at hg
     obtain⟨⟨rfl,rfl⟩,hg2⟩:=ab6 hg;obtain⟨rfl,b,es,clock,rfl,hb,hm,h4,h5⟩:=hok;have hh:=λl hl=>(bx1 hg2 l hl).1.out
     have hv:=λl hl=>(bx1 hg2 l hl).2
     refine⟨rfl,b,es,clock,rfl,hb,⟨hm.keys,hm.once,λl hl=>by rw[<-hh l hl];exact hm.iff l hl⟩,λl e hl he hke=>pure0 (hv l hl ?_) (h4 l e hl he hke),λht l hl hz=>pure0 (hv l hl (by rw[ht];simp)) (h5 ht l hl (by rw[hh l hl];exact hz))⟩;rw[<-hh l hl,(hm.iff l hl).2 ⟨e,he,hke⟩];rfl
    |mps kd has c m p T' ho=>
     cases so<;>simp only[SOle]at hg
     split at hg
     case h_2=>exact hg.elim
     obtain⟨⟨⟨rfl,rfl⟩,rfl⟩,hg2⟩:=ab6 hg;obtain⟨rfl,b,es,clock,rfl,hb,d⟩:=hok;have hh:=λy=>(hg2 y).1.out
     have hm:=λy=>(hg2 y).2.1.out
     refine⟨rfl,b,es,clock,rfl,hb,⟨d.map.keys,d.map.once,λl hl=>by rw[<-hh];exact d.map.iff l hl⟩,λy e he hke hho=>?_,λy hz=>by rw[<-hm];exact d.gone y (by rw[hh];exact hz),λh sv fl hho=>(nomatch hho),d.inj⟩;obtain⟨q1,ys,q2,q3⟩:=d.inn y e he hke rfl;rw[hm]at q2 q3;exact⟨q1,ys,q2,λi' j hi' hj=>⟨(q3 i' j hi' hj).1,pure0 (af1 ((hg2 y).2.2 i' hi') j hj) (q3 i' j hi' hj).2⟩⟩
    |cus=>cases so<;>simp only[SOle]at hg;exact hok.elim
 ·obtain⟨e0,h3,h4⟩:=cutH k e b he hb;exact hrep.low k e0 b h3 h4
 ·obtain⟨e0,h3,h4⟩:=cutH k e b he hb;obtain⟨e1,h5,h6⟩:=cutH k' e' b he' hb';exact hrep.inj k k' e0 e1 b h3 h5 h4 h6
theorem StR.le{w0 X0 N}{s t:St}{a:Act}{w:World}(h:StR w0 X0 N s a w){m:Nat}(hnm:∀k,X0.nm k≠none->k<m)(hm:NmLe m s.H t.H)(hl:StLe s t):StR w0 X0 N t a w:=by
 obtain⟨E,hrep,htr⟩:=h;obtain⟨h1,h2⟩:=hl;obtain⟨g1,hx⟩:=hrep.le h2 hnm hm;exact⟨E.cut t.H,g1,htr.1,htr.2.1.mono (λ_ _ _=>rfl) (λb _ hb=>hx b hb),λu hu=>ah1 hx (λk ver v us he ver' hr=>ax4 (hrep.ok k _ he) hr) (ao8 h1 u) (htr.2.2 u hu)⟩
open Go.RowKit
inductive PrepA:Type
 |tmp (t:Nat)
 |cells (k:Nat)
 |own (t:Nat) (T:TypeId) (n:Nat)
 |ownC (k off:Nat) (T:TypeId) (n:Nat)
 |shrink (t:Nat)
 |nilc (t:Nat)
 |mv (j k:Nat)
 |deepen (k c:Nat) (T':TypeId)
 |focus (k t:Nat)
 |aE6 (k:Nat)
 |bv6 (k t:Nat)
 |aL1 (k:Nat)
 |a68 (k:Nat)
 |give (k:Nat)
def ren(j k:Nat):SV->SV
 |.own i off=>match Nat.beq i k with
  |true=> .any
  |false=>match Nat.beq i j with
   |true=> .own k off
   |false=> .own i off
 |.osl i ver=>match Nat.beq i k with
  |true=> .any
  |false=>match Nat.beq i j with
   |true=> .osl k ver
   |false=> .osl i ver
 |.ownAt ..=> .any
 |.pin ..=> .any
 |.part ..=> .any
 |.omap i=>match Nat.beq i k with
  |true=> .any
  |false=>match Nat.beq i j with
   |true=> .omap k
   |false=> .omap i
 |.win i ver n lo len=>match Nat.beq i k with
  |true=> .any
  |false=>match Nat.beq i j with
   |true=> .win k ver n lo len
   |false=> .win i ver n lo len
 |.agg n g=> .agg n (λi=>ren j k (g i))
 |.tup n g=> .tup n (λi=>ren j k (g i))
 |.fn f n g=> .fn f n (λi=>ren j k (g i))
 |.fnb f n g=> .fnb f n (λi=>ren j k (g i))
 |.slP n g=> .slP n (λi=>ren j k (g i))
 |.refP g=> .refP (λi=>ren j k (g i))
 |.ifc T g=> .ifc T (λi=>ren j k (g i))
 |s=>s
def renO(j k:Nat):SO->SO
 |.cells n g T=> .cells n (λi=>ren j k (g i)) T
 |.deep ver len n c m p g T T' ho=> .deep ver len n c m p g T T' (bC3 (ren j k) ho)
 |.mps kd has c m p T' ho=> .mps kd has c m p T' (aQ8 (ren j k) ho)
 |s=>s
def renE(j k:Nat)(E:Env):Env:=λi=>if i=k then E j else if i=j then none else E i
def renH(j k:Nat)(H:List SO):List SO:=((H.map (renO j k)).set k (renO j k (H.getD j .dead))).set j .dead
def ah0(n:Nat)(T:TypeId):SO:= .row 0 0 n (λ_ _=> .any) T
def updN(m:Nat->Nat)(h x i:Nat):Nat:=cond (decide (i=h)) x (m i)
def updP(p:Nat->Nat->Nat->SV)(h:Nat)(q:Nat->Nat->SV)(i a b:Nat):SV:=selS (decide (i=h)) (q a b) (p i a b)
def updI(m:Int->Nat)(h:Int)(x:Nat)(y:Int):Nat:=cond (decide (y=h)) x (m y)
def aZ5(p:Int->Nat->Nat->SV)(h:Int)(q:Nat->Nat->SV)(y:Int)(a b:Nat):SV:=selS (decide (y=h)) (q a b) (p y a b)
def an1(m N:Nat)(s:St):PrepA->Option St
 |.tmp t=>match au8 s.H (aQ0 s.H 6 (ac5 s.τ t))with
  |some l=>match pur (ad5 s.H l) 6 (ac5 s.τ t)with
   |some v=>some ⟨(t,v)::s.τ,ad5 s.H l⟩
   |none=>none
  |none=>none
 |.cells k=>match s.H.getD k .dead with
  |.cells n g _=>match au8 s.H ((List.range n).flatMap λi=>aQ0 s.H 6 (g i))with
   |some l=>match(ad5 s.H l).getD k .dead with
    | .cells n g T=>if(List.range n).all (λi=>(pur (ad5 s.H l) 6 (g i)).isSome)=true then
      some ⟨s.τ,(ad5 s.H l).set k (.cells n (λi=>(pur (ad5 s.H l) 6 (g i)).getD .any) T)⟩else none
    |_=>none
   |none=>none
  |_=>none
 |.own t T n=>match ac5 s.τ t with
  |.cap0=>some ⟨(t,.osl s.H.length 0)::s.τ,s.H++[ah0 n T]⟩
  |_=>none
 |.ownC k off T n=>match s.H.getD k .dead with
  |.cells m g T'=>match g off with
   |.cap0=>if off<m then some ⟨s.τ,(s.H++[ah0 n T]).set k (.cells m (updF g off 1 (λ_=> .osl s.H.length 0)) T')⟩else none
   |_=>none
  |_=>none
 |.shrink t=>match Nat.blt t N with
  |true=>match ac5 s.τ t with
   |.win k ver n lo len=>match lo with
    |0=>match s.H.getD k .dead with
     |.row ver' _ m g T=>if ver=ver'/\n=m then some ⟨(t,.osl k (ver+1))::s.τ,s.H.set k (.row (ver+1) len m g T)⟩else none
     |_=>none
    |lo+1=>match s.H.getD k .dead with
     |.row ver' _ m g T=>if ver=ver'/\n=m then some ⟨(t,.osl k (ver+1))::s.τ,s.H.set k (.row (ver+1) len m (λi j=>g (lo+1+i) j) T)⟩else none
     |_=>none
   |_=>none
  |false=>none
 |.nilc _=>none
 |.mv j k=>match(Nat.ble m j&&Nat.ble m k)&&(Nat.blt k s.H.length&&!Nat.beq j k)with
  |true=>some ⟨s.τ.map (λp=>(p.1,ren j k p.2)),renH j k s.H⟩
  |false=>none
 |.deepen k c T'=>match s.H.getD k .dead with
  |.row ver len n _ T=>match len,n with
   |0,n+1=>some ⟨s.τ,s.H.set k (.deep ver 0 (n+1) c (λ_=>0) (λ_ _ _=> .any) (λ_ _=> .any) T T' none)⟩
   |_,_=>none
  |_=>none
 |.focus k t=>match ac5 s.τ t with
  |.int _ i=>match s.H.getD k .dead with
   |.deep ver len n c m p g T T' ho=>match ho with
    |none=>some ⟨s.τ,s.H.set k (.deep ver len n c m p g T T' (some (i.toNat,.osl s.H.length 0)))++[.row 0 (m i.toNat) c (p i.toNat) T']⟩
    |some _=>none
   |_=>none
  |_=>none
 |.aE6 k=>match s.H.getD k .dead with
  |.deep ver len n c m p g T T' ho=>match ho with
   |some (h,sv)=>match sv with
    |.osl K ver'=>match s.H.getD K .dead with
     |.row ver2 len2 c2 g2 T2=>if((ver'=ver2/\c2=c)/\T2=T')/\K≠k then some ⟨s.τ,(s.H.set K .dead).set k (.deep ver len n c (updN m h len2) (updP p h g2) g T T' none)⟩else none
     |_=>none
    |.cap0=>some ⟨s.τ,s.H.set k (.deep ver len n c (updN m h 0) p g T T' none)⟩
    |_=>none
   |none=>none
  |_=>none
 |.bv6 k t=>match ac5 s.τ t with
  |.int _ i=>match s.H.getD k .dead with
   |.mps kd has c m p T' ho=>match ho with
    |none=>some ⟨s.τ,s.H.set k (.mps kd has c m p T' (some (i,.osl s.H.length 0,false)))++[.row 0 (m i) c (p i) T']⟩
    |some _=>none
   |_=>none
  |_=>none
 |.aL1 k=>match s.H.getD k .dead with
  |.mps kd has c m p T' ho=>match ho with
   |some q=>match q.2.1 with
    |.osl K ver'=>match s.H.getD K .dead with
     |.row ver2 len2 c2 g2 T2=>if((ver'=ver2/\c2=c)/\T2=T')/\K≠k/\q.2.2=true then some ⟨s.τ,(s.H.set K .dead).set k (.mps kd has c (updI m q.1 len2) (aZ5 p q.1 g2) T' none)⟩else none
     |_=>none
    |_=>none
   |none=>none
  |_=>none
 |.a68 k=>match s.H.getD k .dead with
  |.mps kd has c m p T' ho=>match ho with
   |none=>some ⟨s.τ,s.H.set k (.mpi (.one kd) true (λl=>has (l.getD 0 0)) (λl=> .sl (m (l.getD 0 0)) c (p (l.getD 0 0))))⟩
   |some _=>none
  |_=>none
 |.give k=>match frzO s.H k with
  |some so=>some ⟨s.τ,s.H.set k so⟩
  |none=>none
def bN3(N:Nat)(s:St)(t:Nat):Option (Nat×St×St):=match Nat.blt t N with
 |true=>match ac5 s.τ t with
  |.sl len n g=>some (len,⟨(t,.nilsl)::s.τ,s.H⟩,⟨(t,.slN len n g)::s.τ,s.H⟩)
  |_=>none
 |false=>none
def as5(m N:Nat)(s:St):List PrepA->Option St
 | []=>some s
 |p::r=>match an1 m N s p with
  |some s'=>as5 m N s' r
  |none=>none
theorem Rep.known{w0 X0 H E w}(h:Rep w0 X0 H E w):E H.length=none:=by
 cases hc:E H.length with
 |none=>rfl
 |some e=>have:=h.dom _ _ hc;omega
theorem Rep.empty{w0 X0 H E w}(h:Rep w0 X0 H E w)(n:Nat)(T:TypeId)(a:Option Addr):
  Rep w0 X0 (H++[ah0 n T]) (E.put H.length (.slc 0 (.slice a 0 0) (λ_=>none))) w/\ab7 (Xo X0 E H) (Xo X0 (E.put H.length (.slc 0 (.slice a 0 0) (λ_=>none))) (H++[ah0 n T])) w/\E.le (E.put H.length (.slc 0 (.slice a 0 0) (λ_=>none))):=by
 have hget:∀k<H.length,(H++[ah0 n T]).getD k .dead=H.getD k .dead:=λk hk=>ab0 hk
 have hnew:(H++[ah0 n T]).getD H.length .dead=ah0 n T:=by
  rw[la,lR (lh _)];simp
 have hxo:Xo X0 E (H++[ah0 n T])=Xo X0 E H:=an4 λk e hke=>hget k (h.dom k e hke)
 have hh:∀b,¬ holds (.slc 0 (.slice a 0 0) (λ_=>none)) (ah0 n T) b:=λb hb=>by cases a<;>simp[ah0,holds,ad7]at hb
 obtain⟨g1,g2⟩:=(h.ext (by simp) hget).new (k:=H.length) (e:= .slc 0 (.slice a 0 0) (λ_=>none)) h.known (by simp) (Below.refl _ _) (λb hb=>by rw[hnew]at hb;exact(hh b hb).elim)
  (by rw[hnew];exact⟨rfl,[],.inl ⟨_,rfl,rfl,rfl⟩,λi j hi=>absurd hi (ln _)⟩)
 rw[hxo]at g2;exact⟨g1,g2,Env.aQ6 h.known⟩
theorem Rep.co5{w0 X0 H E w}(h:Rep w0 X0 H E w){k n:Nat}{g g':Nat->SV}{T:TypeId}(hk:H.getD k .dead=.cells n g T)
  (hr:∀i v,i<n->R w (Xo X0 E H) E (g i) v->R w (Xo X0 E H) E (g' i) v):Rep w0 X0 (H.set k (.cells n g' T)) E w/\ab7 (Xo X0 E H) (Xo X0 E (H.set k (.cells n g' T))) w:=by
 cases he:E k with
 |none=>
  have hh:∀j e,E j=some e->(H.set k (.cells n g' T)).getD j .dead=H.getD j .dead:=λj e hj=>aa3 (λhc=>by subst hc;rw[he]at hj;cases hj)
  refine⟨h.ext' (by simp) hh,?_⟩;rw[an4 hh];exact ab7.refl _ _
 |some e=>
  have hok:=h.ok k e he;rw[hk]at hok;cases e with
  |slc=>exact hok.elim
  |blk b=>
   obtain⟨vs,h1,h2,h3⟩:=hok;have hput:E.put k (.blk b)=E:=Env.af6 he;have hu:=h.upd (w':=w) (e':= .blk b) (so':= .cells n g' T) he (by rw[hput];exact Env.le_refl _) (λ_ _ _=>rfl) rfl rfl rfl (lh _) (λb' hb'=> .inl (by rw[hk];exact hb'))
    (λhke hwi _=>by rw[hput]at *;exact⟨vs,h1,h2,λi hi=>⟨(h3 i hi).1,(hr i _ hi (h3 i hi).2).mono hke hwi (Env.le_refl _)⟩⟩)
   rw[hput]at hu;exact⟨hu.1,hu.2.2⟩
theorem ba4{w X E v}(h:R w X E .cap0 v):∃a,v=.slice a 0 0:=by cases h;exact⟨_,rfl⟩
theorem bU0{w:World}{X X':Nat->Prop}(hx:∀b,X' b->X b){j k:Nat}(_:j≠k){E:Env}{s:SV}{v:Value}(h:R w X E s v):R w X' (renE j k E) (ren j k s) v:=by
 have ek:∀{i},Nat.beq i j=true->i=j:=λh=>lK h
 have e1:renE j k E k=E j:=by unfold renE;rw[ll rfl]
 have e2:∀{i},Nat.beq i k=false->Nat.beq i j=false->renE j k E i=E i:=λh1 h2=>by
  unfold renE;rw[lu (uF h1),lu (uF h2)]
 induction s generalizing v with
 |any=>exact .any
 |int=>cases h;exact .int
 |bool=>cases h;exact .bool
 |lit=>cases h;exact .lit
 |str=>cases h;exact .str
 |nilfn=>cases h;exact .nilfn
 |cap0=>cases h;exact .cap0
 |fn f n g ih=>cases h with|fn hs hr=>exact .fn hs λi hi=>ih i (hr i hi)
 |fnb f n g ih=>cases h with|fnb hs hr=>exact .fnb hs λi hi=>ih i (hr i hi)
 |agg n g ih=>cases h with|agg hs ho hr=>exact .agg hs ho λi hi=>ih i (hr i hi)
 |tup n g ih=>cases h with|tup hs hr=>exact .tup hs λi hi=>ih i (hr i hi)
 |sl len n g ih=>
  cases h with
  |sl0=>exact .sl0
  |sl hb hX hc hl ho hr=>exact .sl hb (λhc=>hX (hx _ hc)) hc hl ho λi j hi hj=>(hr i j hi hj).mono (λ_ _ _=>rfl) (λb _ hb=>hx b hb) (Env.le_refl _)
 |ref n g ih=>cases h with|ref hb hX hc ho hr=>exact .ref hb (λhc=>hX (hx _ hc)) hc ho λj hj=>(hr j hj).mono (λ_ _ _=>rfl) (λb _ hb=>hx b hb) (Env.le_refl _)
 |own i off=>
  cases h with
  |own he=>
   simp only[ren];split
   ·exact .any
   ·rename_i h1;split
    ·rename_i h2;exact .own (by rw[e1,<-ek h2];exact he)
    ·rename_i h2;exact .own (by rw[e2 h1 h2];exact he)
 |osl i ver=>
  simp only[ren];split
  ·exact .any
  ·rename_i h1;cases h with
   |osl he hs=>
    split
    ·rename_i h2;exact .osl (by rw[e1,<-ek h2];exact he) hs
    ·rename_i h2;exact .osl (by rw[e2 h1 h2];exact he) hs
   |oslOld he hl hs=>
    split
    ·rename_i h2;exact .oslOld (by rw[e1,<-ek h2];exact he) hl hs
    ·rename_i h2;exact .oslOld (by rw[e2 h1 h2];exact he) hl hs
 |ownAt=>exact .any
 |pin=>exact .any
 |part=>exact .any
 |con=>cases h;exact .con
 |slP n g ih=>cases h with|slP hb hX hc hl ho hr=>exact .slP hb (λhc=>hX (hx _ hc)) hc hl ho λi hi=>ih i (hr i hi)
 |refP g ih=>cases h with|refP hb hX hc ho hr=>exact .refP hb (λhc=>hX (hx _ hc)) hc ho (ih 0 hr)
 |ifc T g ih=>cases h with|ifc ho hr=>exact .ifc ho (ih 0 hr)
 |omap i=>
  simp only[ren];split
  ·exact .any
  ·rename_i h1;cases h with
   |omap he=>
    split
    ·rename_i h2;exact .omap (by rw[e1,<-ek h2];exact he)
    ·rename_i h2;exact .omap (by rw[e2 h1 h2];exact he)
   |omapOld he hl=>
    split
    ·rename_i h2;exact .omapOld (by rw[e1,<-ek h2];exact he) hl
    ·rename_i h2;exact .omapOld (by rw[e2 h1 h2];exact he) hl
 |nilsl=>cases h;exact .nilsl
 |slN len n g=>
  cases h with
  |slN hr=>
   refine .slN ?_;cases hr with
   |sl0=>exact .sl0
   |sl hb hX hc hl ho hr=>exact .sl hb (λhc=>hX (hx _ hc)) hc hl ho λi j hi hj=>(hr i j hi hj).mono (λ_ _ _=>rfl) (λb _ hb=>hx b hb) (Env.le_refl _)
 |win i ver n lo len=>
  simp only[ren];split
  ·exact .any
  ·rename_i h1;cases h with
   |win he hl ha h0=>
    split
    ·rename_i h2;exact .win (by rw[e1,<-ek h2];exact he) hl ha h0
    ·rename_i h2;exact .win (by rw[e2 h1 h2];exact he) hl ha h0
   |winOld he hl hs=>
    split
    ·rename_i h2;exact .winOld (by rw[e1,<-ek h2];exact he) hl hs
    ·rename_i h2;exact .winOld (by rw[e2 h1 h2];exact he) hl hs
theorem aC7(e:EI)(j k:Nat)(so:SO):holds e (renO j k so)=holds e so:=by
 cases so<;>cases e<;>first|rfl|skip
 ·funext b;simp only[renO,holds,ae8]
 ·funext b;simp only[renO,holds,ae7]
theorem b24{w X X' E}(hx:∀b,X' b->X b){j k:Nat}(hjk:j≠k){e:EI}{so:SO}(h:EIok w X E e so):EIok w X' (renE j k E) e (renO j k so):=by
 have weak:∀{s:SV}{v:Value},R w X E0 s v->R w X' E0 s v:=λh=>h.mono (λ_ _ _=>rfl) (λb _ hb=>hx b hb) (Env.le_refl _)
 cases e with
 |blk b=>
  cases so with
  |dead=>trivial
  |cells n g T=>
   obtain⟨vs,h1,h2,h3⟩:=h;exact⟨vs,h1,h2,λi hi=>⟨(h3 i hi).1,bU0 hx hjk (h3 i hi).2⟩⟩
  |scells n g=>
   obtain⟨vs,T,fr,h1,h2,h3,h4⟩:=h;exact⟨vs,T,fr,h1,λhc=>h2 (hx _ hc),h3,λi hi=>⟨(h4 i hi).1,weak (h4 i hi).2⟩⟩
  |row=>exact h
  |srow=>exact h
  |deep=>exact h
  |mpi=>exact h
  |mps=>exact h
  |cus Q=>exact Q.mono (λ_ _ _ _ hc _=>hc) (λb _ hb=>hx b hb) h
 |slc ver v us=>
  cases so with
  |dead=>trivial
  |cells=>exact h
  |scells=>exact h
  |mpi kk tot has val=>
   obtain⟨h1,b,es,clock,rfl,h2,h3,h4,h5⟩:=h;exact⟨h1,b,es,clock,rfl,h2,h3,λl e hl he hk=>weak (h4 l e hl he hk),λht l hl hh=>weak (h5 ht l hl hh)⟩
  |mps kd has c m p T' ho=>
   obtain⟨h1,b,es,clock,rfl,h2,d⟩:=h;refine⟨h1,b,es,clock,rfl,h2,d.map,λy e he hke hh=>?_,d.gone,λhy sv fl hho=>?_,λy y' b q1 q2=>d.inj y y' b (by rwa[ae7]at q1) (by rwa[ae7]at q2)⟩
   ·rw[ae7]at hh;obtain⟨q1,ys,q2,q3⟩:=d.inn y e he hke hh;exact⟨q1,ys,q2,λi' j hi' hj=>⟨(q3 i' j hi' hj).1,weak (q3 i' j hi' hj).2⟩⟩
   ·cases ho with
    |none=>cases hho
    |some q=>
     cases hho;obtain⟨g1,g2,g3⟩:=d.out q.1 q.2.1 q.2.2 rfl;exact⟨g1,λe he hke=>bU0 hx hjk (g2 e he hke),λhz=>bU0 hx hjk (g3 hz)⟩
  |cus=>exact h
  |row=>
   obtain⟨h1,xs,h2,h3⟩:=h;exact⟨h1,xs,h2,λi j hi hj=>⟨(h3 i j hi hj).1,weak (h3 i j hi hj).2⟩⟩
  |srow=>exact⟨h.1,weak h.2⟩
  |deep ver' len n c m p g T T' ho=>
   obtain⟨h1,xs,d⟩:=h;refine⟨h1,xs,d.map hx (λi hi=>by rwa[ae8]at hi) (λi sv' hi=>?_)⟩;rw[aw9]at hi;cases hh:hoAt ho i with
   |none=>rw[hh]at hi;cases hi
   |some sv=>
    rw[hh]at hi;cases hi;exact⟨sv,rfl,λu hu=>bU0 hx hjk hu⟩
theorem Rep.ren{w0 X0 H E w}(h:Rep w0 X0 H E w){m j k:Nat}(hnm:∀i,X0.nm i≠none->i<m)(hj:m<=j)(hk:m<=k)(hkl:k<H.length)(hjk:j≠k):
  Rep w0 X0 (renH j k H) (renE j k E) w/\∀b,Xo X0 (renE j k E) (renH j k H) b->Xo X0 E H b:=by
 have hget:∀i e,renE j k E i=some e->∃i0,E i0=some e/\(renH j k H).getD i .dead=renO j k (H.getD i0 .dead)/\(i=k/\i0=j\/i≠k/\i≠j/\i0=i):=by
  intro i e he;unfold renE at he;split at he
  ·rename_i hi;subst hi;refine⟨j,he,?_,.inl ⟨rfl,rfl⟩⟩;unfold renH;rw[aa3 (xG hjk),ac3 (by rw[lY];exact hkl)]
  ·rename_i hi;split at he
   ·cases he
   ·rename_i hij;refine⟨i,he,?_,.inr ⟨hi,hij,rfl⟩⟩;unfold renH;rw[aa3 hij,aa3 hi,la,lW,la];cases H[i]?<;>rfl
 have hx:∀b,Xo X0 (renE j k E) (renH j k H) b->Xo X0 E H b:=by
  rintro b (hb|⟨i,e,he,hh⟩)
  ·exact .inl hb
  ·obtain⟨i0,h1,h2,_⟩:=hget i e he;rw[h2,aC7]at hh;exact .inr ⟨i0,e,h1,hh⟩
 refine⟨⟨h.below,h.x0,λi e he=>?_,λi e he=>?_,λi e he=>?_,λi e b he hb=>?_,λi i' e e' b he he' hb hb'=>?_⟩,hx⟩
 ·have hi:=hnm i (by rw[he];exactλhc=>by cases hc);have:renE j k E i=E i:=by
   unfold renE;rw[lu (by omega),lu (by omega)]
  rw[this];exact h.nm i e he
 ·unfold renH;rw[um,um,lY];obtain⟨i0,h1,_,h3⟩:=hget i e he;have:=h.dom i0 e h1
  rcases h3 with⟨rfl,_⟩|⟨_,_,rfl⟩
  ·exact hkl
  ·exact this
 ·obtain⟨i0,h1,h2,_⟩:=hget i e he;rw[h2];exact b24 hx hjk (h.ok i0 e h1)
 ·obtain⟨i0,h1,h2,_⟩:=hget i e he;rw[h2,aC7]at hb;exact h.low i0 e b h1 hb
 ·obtain⟨i0,h1,h2,h3⟩:=hget i e he;obtain⟨i1,g1,g2,g3⟩:=hget i' e' he';rw[h2,aC7]at hb;rw[g2,aC7]at hb';have:=h.inj i0 i1 e e' b h1 g1 hb hb'
  omega
theorem bf8{f:SV->SV}(hf:f .any=.any):∀(τ:Tmps)(t:Nat),ac5 (τ.map (λp=>(p.1,f p.2))) t=f (ac5 τ t)
 | [],t=>hf.symm
 |(u,s)::r,t=>by
  simp only[xQ,ac5];split
  ·rfl
  ·exact bf8 hf r t
theorem Rep.redo{w0 X0 H E w}(h:Rep w0 X0 H E w){H2:List SO}{E2:Env}(le:E.le E2)(dom:∀k e,E2 k=some e->k<H2.length)
  (src:∀k e b,E2 k=some e->holds e (H2.getD k .dead) b->∃k0 e0,E k0=some e0/\holds e0 (H.getD k0 .dead) b)
  (ok:(∀b,Xo X0 E2 H2 b->Xo X0 E H b)->∀k e,E2 k=some e->EIok w (Xo X0 E2 H2) E2 e (H2.getD k .dead))
  (inj:∀k k' e e' b,E2 k=some e->E2 k'=some e'->holds e (H2.getD k .dead) b->holds e' (H2.getD k' .dead) b->k=k'):Rep w0 X0 H2 E2 w/\∀b,Xo X0 E2 H2 b->Xo X0 E H b:=by
 have hx:∀b,Xo X0 E2 H2 b->Xo X0 E H b:=by
  rintro b (hb|⟨k,e,he,hh⟩)
  ·exact .inl hb
  ·obtain⟨k0,e0,h1,h2⟩:=src k e b he hh;exact .inr ⟨k0,e0,h1,h2⟩
 refine⟨⟨h.below,h.x0,λk e hk=>(h.nm k e hk).le le,dom,ok hx,λk e b he hb=>?_,inj⟩,hx⟩;obtain⟨k0,e0,h1,h2⟩:=src k e b he hb;exact h.low k0 e0 b h1 h2
theorem bP5{h i:Nat}{sv sv':SV}(hh:hoAt (some (h,sv)) i=some sv'):h=i/\sv=sv':=by
 simp only[hoAt]at hh;obtain⟨h1,h2⟩:=aa0 hh;exact⟨h1,h2⟩
theorem cg1{h i:Nat}{sv:SV}(hh:hoAt (some (h,sv)) i=none):h≠i:=λhc=>by
 simp only[hoAt]at hh;rw[ll hc]at hh;cases hh
theorem az7{h i:Nat}{sv:SV}(hne:h≠i):hoAt (some (h,sv)) i=none:=by
 simp only[hoAt];rw[lu hne]
theorem ah4.slice{w T n v len xs}(h:ah4 w T n v len xs):∃a a2 a3,v=.slice a a2 a3:=by
 rcases h with⟨a,e1,_⟩|⟨b,oo,cap,cur,e1,_⟩<;>exact⟨_,_,_,e1⟩
theorem as8{w:World}{X X':Nat->Prop}(hx:∀b,X' b->X b){s:SV}{v:Value}(h:R w X E0 s v):R w X' E0 s v:=h.mono (λ_ _ _=>rfl) (λb _ hb=>hx b hb) (Env.le_refl _)
theorem aA3.weak{w X X' c T' u m p}(hx:∀b,X' b->X b)(h:aA3 w X c T' u m p):aA3 w X' c T' u m p:=by
 obtain⟨ys,q2,q3⟩:=h;exact⟨ys,q2,λi' j hi' hj=>⟨(q3 i' j hi' hj).1,as8 hx (q3 i' j hi' hj).2⟩⟩
theorem DeepOK.hole{w X X' E E' v us len n c m p g T T' xs}(d:DeepOK w X E v us len n c m p g T T' none xs)(hx:∀b,X' b->X b){i:Nat}{sv:SV}(hr:i<len->R w X' E' sv (xs.getD (i*n) undef)):
  DeepOK w X' E' v us len n c m p g T T' (some (i,sv)) xs:=by
 refine⟨d.pos,d.own,λi j hi h0 hj=>⟨(d.rest i j hi h0 hj).1,as8 hx (d.rest i j hi h0 hj).2⟩,λi' sv' hi hh=>?_,λi' hi hh=>⟨(d.inn i' hi rfl).1,(d.inn i' hi rfl).2.weak hx⟩,λi' b hi _=>d.apart i' b hi rfl,λi1 i2 b h1 h2 _ _=>d.inj i1 i2 b h1 h2 rfl rfl⟩;obtain⟨rfl,rfl⟩:=bP5 hh;refine⟨?_,hr hi⟩;obtain⟨_,ys,q2,_⟩:=d.inn i hi rfl;obtain⟨a,a2,a3,e⟩:=q2.slice;rw[e];rfl
theorem Rep.focus{w0 X0 H E w}(hrep:Rep w0 X0 H E w){k ver len n c:Nat}{m:Nat->Nat}{p:Nat->Nat->Nat->SV}{g:Nat->Nat->SV}{T T':TypeId}(hk:H.getD k .dead=.deep ver len n c m p g T T' none)(i:Nat):
  ∃E2,E.le E2/\Rep w0 X0 (H.set k (.deep ver len n c m p g T T' (some (i,.osl H.length 0)))++[.row 0 (m i) c (p i) T']) E2 w/\∀b,Xo X0 E2 (H.set k (.deep ver len n c m p g T T' (some (i,.osl H.length 0)))++[.row 0 (m i) c (p i) T']) b->Xo X0 E H b:=by
 have hkl:k<H.length:=lz λhc=>by rw[ae5 hc]at hk;cases hk
 have hnew:E H.length=none:=hrep.known;generalize hH2:H.set k (.deep ver len n c m p g T T' (some (i,.osl H.length 0)))++[.row 0 (m i) c (p i) T']=H2;have hlen:H2.length=H.length+1:=by rw[<-hH2];simp
 have gk:H2.getD k .dead=.deep ver len n c m p g T T' (some (i,.osl H.length 0)):=by
  rw[<-hH2,ab0 (by simpa using hkl),ac3 hkl]
 have gK:H2.getD H.length .dead=.row 0 (m i) c (p i) T':=by
  rw[<-hH2,la,lR (by simp)];simp
 have gj:∀j,j≠k->j≠H.length->H2.getD j .dead=H.getD j .dead:=λj h1 h2=>by
  by_cases hj:j<H.length
  ·rw[<-hH2,ab0 (by simpa using hj),aa3 h1]
  ·rw[ae5 (by omega),ae5 hj]
 by_cases hin:i<len/\∃e,E k=some e
 ·obtain⟨hi,e,he⟩:=hin;have hok:=hrep.ok k e he;rw[hk]at hok;cases e with
  |blk=>exact hok.elim
  |slc ver' v us=>
   obtain⟨rfl,xs,d⟩:=hok;obtain⟨q1,ys,q2,q3⟩:=d.inn i hi rfl;have hle:=Env.aQ6 (e:= .slc 0 (xs.getD (i*n) undef) (λ_=>none)) hnew;have hsrc:∀j e b,(E.put H.length (.slc 0 (xs.getD (i*n) undef) (λ_=>none))) j=some e->holds e (H2.getD j .dead) b->(j=k/\(ad7 v=some b\/∃i',i'<len/\i'≠i/\us i'=some b))\/(j=H.length/\us i=some b)\/(j≠k/\j≠H.length/\E j=some e/\holds e (H.getD j .dead) b):=by
    intro j e b hj hb;by_cases h1:j=H.length
    ·subst h1;rw[Env.aa8]at hj;cases hj;rw[gK]at hb;exact .inr (.inl ⟨rfl,q1▸hb⟩)
    ·rw[Env.ac6 h1]at hj;by_cases h2:j=k
     ·subst h2;rw[he]at hj;cases hj;rw[gk]at hb;rcases hb with hb|⟨i',hi',hh,hb⟩
      ·exact .inl ⟨rfl,.inl hb⟩
      ·exact .inl ⟨rfl,.inr ⟨i',hi',xG (cg1 hh),hb⟩⟩
     ·rw[gj j h2 h1]at hb;exact .inr (.inr ⟨h2,h1,hj,hb⟩)
   have hk2:∀b,(ad7 v=some b\/∃i',i'<len/\us i'=some b)->holds (.slc ver' v us) (H.getD k .dead) b:=λb hb=>by
    rw[hk];rcases hb with hb|⟨i',h1,h2⟩
    ·exact .inl hb
    ·exact .inr ⟨i',h1,rfl,h2⟩
   obtain⟨g1,g2⟩:=hrep.redo (H2:=H2) hle (λj e hj=>by
     by_cases h1:j=H.length
     ·omega
     ·rw[Env.ac6 h1]at hj;have:=hrep.dom j e hj;omega) (λj e b hj hb=>by
     rcases hsrc j e b hj hb with⟨rfl,h1⟩|⟨rfl,h1⟩|⟨_,_,h1,h2⟩
     ·exact⟨j,_,he,hk2 b (h1.elim .inl λ⟨i',a1,_,a2⟩=> .inr ⟨i',a1,a2⟩)⟩
     ·exact⟨k,_,he,hk2 b (.inr ⟨i,hi,h1⟩)⟩
     ·exact⟨j,e,h1,h2⟩) (λhx j e hj=>by
     by_cases h1:j=H.length
     ·subst h1;rw[Env.aa8]at hj;cases hj;rw[gK];exact⟨rfl,ys,q2,λi' j' a1 a2=>⟨(q3 i' j' a1 a2).1,as8 hx (q3 i' j' a1 a2).2⟩⟩
     ·rw[Env.ac6 h1]at hj;by_cases h2:j=k
      ·subst h2;rw[he]at hj;cases hj;rw[gk];exact⟨rfl,xs,d.hole hx λ_=> .osl (Env.aa8 _ _ _) q2.slice⟩
      ·rw[gj j h2 h1];exact(hrep.ok j e hj).mono (λ_ _ _=>rfl) (λb _ hb=>hx b hb) hle λ_ _=>rfl) (λj j' e e' b hj hj' hb hb'=>by
     have other:∀{j e},j≠k->E j=some e->holds e (H.getD j .dead) b->(ad7 v=some b\/∃i',i'<len/\us i'=some b)->False:=λh1 h2 h3 h4=>h1 (hrep.inj _ _ _ _ b h2 he h3 (hk2 b h4))
     have mix:(ad7 v=some b\/∃i',i'<len/\i'≠i/\us i'=some b)->us i=some b->False:=λh1 h2=>by
      rcases h1 with h1|⟨i',a1,a2,a3⟩
      ·exact d.apart i b hi rfl h2 h1
      ·exact a2 (d.inj i' i b a1 hi rfl rfl a3 h2)
     have wide:(ad7 v=some b\/∃i',i'<len/\i'≠i/\us i'=some b)->(ad7 v=some b\/∃i',i'<len/\us i'=some b):=λh1=>h1.elim .inl λ⟨i',a1,_,a2⟩=> .inr ⟨i',a1,a2⟩
     rcases hsrc j e b hj hb with⟨rfl,h1⟩|⟨rfl,h1⟩|⟨a1,a2,h1,h2⟩<;>rcases hsrc j' e' b hj' hb' with⟨r1,h3⟩|⟨r1,h3⟩|⟨a3,a4,h3,h4⟩
     ·exact r1.symm
     ·exact(mix h1 h3).elim
     ·exact(other a3 h3 h4 (wide h1)).elim
     ·exact(mix h3 h1).elim
     ·exact r1.symm
     ·exact(other a3 h3 h4 (.inr ⟨i,hi,h1⟩)).elim
     ·exact(other a1 h1 h2 (wide h3)).elim
     ·exact(other a1 h1 h2 (.inr ⟨i,hi,h3⟩)).elim
     ·exact hrep.inj j j' e e' b h1 h3 h2 h4)
   exact⟨_,hle,g1,g2⟩
 ·have hdom:∀j e,E j=some e->j<H2.length:=λj e hj=>by have:=hrep.dom j e hj;omega
  have hne:∀j e,E j=some e->j≠H.length:=λj e hj=>by have:=hrep.dom j e hj;omega
  have hhold:∀j e,E j=some e->holds e (H2.getD j .dead)=holds e (H.getD j .dead):=λj e hj=>by
   by_cases h2:j=k
   ·subst h2;rw[gk,hk];cases e with
    |blk=>rfl
    |slc ver' v us=>
     funext b;simp only[holds];refine propext (or_congr uU ⟨λ⟨i',a1,a2,a3⟩=>⟨i',a1,rfl,a3⟩,λ⟨i',a1,a2,a3⟩=>⟨i',a1,az7 λhc=>hin ⟨by omega,_,hj⟩,a3⟩⟩)
   ·rw[gj j h2 (hne j e hj)]
  obtain⟨g1,g2⟩:=hrep.redo (H2:=H2) (E2:=E) (Env.le_refl _) hdom (λj e b hj hb=>⟨j,e,hj,by rw[<-hhold j e hj];exact hb⟩) (λhx j e hj=>by
    by_cases h2:j=k
    ·subst h2;have hok:=hrep.ok j e hj;rw[hk]at hok;rw[gk];cases e with
     |blk=>exact hok.elim
     |slc ver' v us=>
      obtain⟨h1,xs,d⟩:=hok;exact⟨h1,xs,d.hole hx λhc=>(hin ⟨hc,_,hj⟩).elim⟩
    ·rw[gj j h2 (hne j e hj)];exact(hrep.ok j e hj).mono (λ_ _ _=>rfl) (λb _ hb=>hx b hb) (Env.le_refl _) λ_ _=>rfl) (λj j' e e' b hj hj' hb hb'=>by
    rw[hhold j e hj]at hb;rw[hhold j' e' hj']at hb';exact hrep.inj j j' e e' b hj hj' hb hb')
  exact⟨E,Env.le_refl _,g1,g2⟩
theorem cf3{E:Env}{k ver:Nat}{v:Value}{us us':Nat->Option Nat}(he:E k=some (.slc ver v us)):E.le (E.put k (.slc ver v us')):=by
 refine⟨λj b hj=>?_,λj ver' v' us'' hj=>?_⟩
 ·by_cases hjk:j=k
  ·subst hjk;rw[he]at hj;cases hj
  ·rw[Env.ac6 hjk];exact hj
 ·by_cases hjk:j=k
  ·subst hjk;rw[he]at hj;cases hj;exact⟨_,_,_,Env.aa8 _ _ _,lh _,λ_=>rfl⟩
  ·exact⟨_,_,_,by rw[Env.ac6 hjk];exact hj,lh _,λ_=>rfl⟩
theorem ah5(m:Nat->Nat)(h x:Nat):updN m h x h=x:=by unfold updN;rw[lg rfl];rfl
theorem aq9{m:Nat->Nat}{h x i:Nat}(hne:h≠i):updN m h x i=m i:=by unfold updN;rw[lf (xG hne)];rfl
theorem bb5(p:Nat->Nat->Nat->SV)(h:Nat)(q:Nat->Nat->SV):updP p h q h=q:=by funext a b;unfold updP;rw[ae4,lg rfl];rfl
theorem bF2{p:Nat->Nat->Nat->SV}{h:Nat}{q:Nat->Nat->SV}{i:Nat}(hne:h≠i):updP p h q i=p i:=by funext a b;unfold updP;rw[ae4,lf (xG hne)];rfl
theorem DeepOK.fill{w X X' E E' v us len n c m p g T T' xs h sv}(d:DeepOK w X E v us len n c m p g T T' (some (h,sv)) xs)(hx:∀b,X' b->X b){len2:Nat}{q:Nat->Nat->SV}
  (hi:h<len->aA3 w X' c T' (xs.getD (h*n) undef) len2 q) (ha:∀b,h<len->ad7 (xs.getD (h*n) undef)=some b->ad7 v≠some b/\∀i<len,h≠i->us i≠some b):
  DeepOK w X' E' v (λi=>if i=h then ad7 (xs.getD (h*n) undef)else us i) len n c (updN m h len2) (updP p h q) g T T' none xs:=by
 refine⟨d.pos,d.own,λi j hi h0 hj=>⟨(d.rest i j hi h0 hj).1,as8 hx (d.rest i j hi h0 hj).2⟩,λi' sv' hi hh=>(nomatch hh),λi hil _=>?_,λi b hil _ hu=>?_,λi i' b h1 h2 _ _ hu hu'=>?_⟩
 ·by_cases hc:h=i
  ·subst hc;rw[ah5,bb5,ll rfl];exact⟨rfl,hi hil⟩
  ·rw[aq9 hc,bF2 hc,lu (xG hc)];have:=d.inn i hil (az7 hc)
   exact⟨this.1,this.2.weak hx⟩
 ·by_cases hc:i=h
  ·subst hc;rw[ll rfl]at hu;exact(ha b hil hu).1
  ·rw[lu hc]at hu;exact d.apart i b hil (az7 (xG hc)) hu
 ·by_cases hc:i=h
  ·by_cases hc':i'=h
   ·omega
   ·rw[ll hc]at hu;rw[lu hc']at hu';exact((ha b (by omega) hu).2 i' h2 (xG hc') hu').elim
  ·rw[lu hc]at hu;by_cases hc':i'=h
   ·rw[ll hc']at hu';exact((ha b (by omega) hu').2 i h1 (xG hc) hu).elim
   ·rw[lu hc']at hu';exact d.inj i i' b h1 h2 (az7 (xG hc)) (az7 (xG hc')) hu hu'
theorem Rep.aE6{w0 X0 H E w}(hrep:Rep w0 X0 H E w){k K ver len n c h ver' len2:Nat}{m:Nat->Nat}{p:Nat->Nat->Nat->SV}{g g2:Nat->Nat->SV}{T T':TypeId}(hk:H.getD k .dead=.deep ver len n c m p g T T' (some (h,.osl K ver')))
  (hK:H.getD K .dead=.row ver' len2 c g2 T') (hne:K≠k):
  ∃E2,E.le E2/\Rep w0 X0 ((H.set K .dead).set k (.deep ver len n c (updN m h len2) (updP p h g2) g T T' none)) E2 w/\∀b,Xo X0 E2 ((H.set K .dead).set k (.deep ver len n c (updN m h len2) (updP p h g2) g T T' none)) b->Xo X0 E H b:=by
 have hkl:k<H.length:=lz λhc=>by rw[ae5 hc]at hk;cases hk
 have hKl:K<H.length:=lz λhc=>by rw[ae5 hc]at hK;cases hK
 generalize hH2:(H.set K .dead).set k (.deep ver len n c (updN m h len2) (updP p h g2) g T T' none)=H2;have hlen:H2.length=H.length:=by rw[<-hH2];simp
 have gk:H2.getD k .dead=.deep ver len n c (updN m h len2) (updP p h g2) g T T' none:=by rw[<-hH2,ac3 (by simpa using hkl)]
 have gK:H2.getD K .dead=.dead:=by rw[<-hH2,aa3 hne,ac3 hKl]
 have gj:∀j,j≠k->j≠K->H2.getD j .dead=H.getD j .dead:=λj h1 h2=>by rw[<-hH2,aa3 h1,aa3 h2]
 cases he:E k with
 |none=>
  have hhold:∀j e b,E j=some e->holds e (H2.getD j .dead) b->j≠k/\j≠K/\holds e (H.getD j .dead) b:=λj e b hj hb=>by
   have h1:j≠k:=λhc=>by subst hc;rw[he]at hj;cases hj
   have h2:j≠K:=λhc=>by subst hc;rw[gK]at hb;cases e<;>exact hb
   exact⟨h1,h2,by rwa[gj j h1 h2]at hb⟩
  obtain⟨g1,g2⟩:=hrep.redo (H2:=H2) (E2:=E) (Env.le_refl _) (λj e hj=>by have:=hrep.dom j e hj;omega) (λj e b hj hb=>⟨j,e,hj,(hhold j e b hj hb).2.2⟩) (λhx j e hj=>by
    have h1:j≠k:=λhc=>by subst hc;rw[he]at hj;cases hj
    by_cases h2:j=K
    ·subst h2;rw[gK];cases e<;>trivial
    ·rw[gj j h1 h2];exact(hrep.ok j e hj).mono (λ_ _ _=>rfl) (λb _ hb=>hx b hb) (Env.le_refl _) λ_ _=>rfl) (λj j' e e' b hj hj' hb hb'=>hrep.inj j j' e e' b hj hj' (hhold j e b hj hb).2.2 (hhold j' e' b hj' hb').2.2)
  exact⟨E,Env.le_refl _,g1,g2⟩
 |some e=>
  have hok:=hrep.ok k e he;rw[hk]at hok;cases e with
  |blk=>exact hok.elim
  |slc ver0 v us=>
   obtain⟨rfl,xs,d⟩:=hok;have hole:h<len->∃usK,E K=some (.slc ver' (xs.getD (h*n) undef) usK)/\∃ys,ah4 w T' c (xs.getD (h*n) undef) len2 ys/\∀i j,i<len2->j<c->ab1 (ys.getD (i*c+j) undef)/\R w (Xo X0 E H) E0 (g2 i j) (ys.getD (i*c+j) undef):=λhl=>by
    obtain⟨_,hr⟩:=d.out h (.osl K ver') hl (by simp[hoAt]);cases hr with
    |osl he' hv=>
     have hok':=hrep.ok K _ he';rw[hK]at hok';exact⟨_,he',hok'.2⟩
    |oslOld he' hlt hv=>
     have hok':=hrep.ok K _ he';rw[hK]at hok';have:=hok'.1
     omega
   have hle:=cf3 (us':=λi=>if i=h then ad7 (xs.getD (h*n) undef)else us i) he;have hk0:∀b,(ad7 v=some b\/∃i,i<len/\h≠i/\us i=some b)->holds (.slc ver0 v us) (H.getD k .dead) b:=λb hb=>by
    rw[hk];rcases hb with hb|⟨i,h1,h2,h3⟩
    ·exact .inl hb
    ·exact .inr ⟨i,h1,az7 h2,h3⟩
   have hK0:∀b,h<len->ad7 (xs.getD (h*n) undef)=some b->∃e,E K=some e/\holds e (H.getD K .dead) b:=λb hl hb=>by
    obtain⟨usK,h1,_⟩:=hole hl;exact⟨_,h1,by rw[hK];exact hb⟩
   have hsrc:∀j e b,(E.put k (.slc ver0 v (λi=>if i=h then ad7 (xs.getD (h*n) undef)else us i))) j=some e->holds e (H2.getD j .dead) b->∃k0 e0,E k0=some e0/\holds e0 (H.getD k0 .dead) b/\(j=k/\(k0=k\/k0=K)\/j≠k/\j≠K/\k0=j):=by
    intro j e b hj hb;by_cases h1:j=k
    ·subst h1;rw[Env.aa8]at hj;cases hj;rw[gk]at hb;rcases hb with hb|⟨i,hi,_,hb⟩
     ·exact⟨j,_,he,hk0 b (.inl hb),.inl ⟨rfl,.inl rfl⟩⟩
     ·by_cases hc:i=h
      ·simp only[ll hc]at hb;obtain⟨e,q1,q2⟩:=hK0 b (by omega) hb;exact⟨K,e,q1,q2,.inl ⟨rfl,.inr rfl⟩⟩
      ·simp only[lu hc]at hb;exact⟨j,_,he,hk0 b (.inr ⟨i,hi,xG hc,hb⟩),.inl ⟨rfl,.inl rfl⟩⟩
    ·rw[Env.ac6 h1]at hj;have h2:j≠K:=λhc=>by subst hc;rw[gK]at hb;cases e<;>exact hb
     rw[gj j h1 h2]at hb;exact⟨j,e,hj,hb,.inr ⟨h1,h2,rfl⟩⟩
   obtain⟨g1,g3⟩:=hrep.redo (H2:=H2) hle (λj e hj=>by
     by_cases h1:j=k
     ·omega
     ·rw[Env.ac6 h1]at hj;have:=hrep.dom j e hj;omega) (λj e b hj hb=>by obtain⟨k0,e0,q1,q2,_⟩:=hsrc j e b hj hb;exact⟨k0,e0,q1,q2⟩) (λhx j e hj=>by
     by_cases h1:j=k
     ·subst h1;rw[Env.aa8]at hj;cases hj;rw[gk];refine⟨rfl,xs,d.fill hx (λhl=>?_) λb hl hb=>?_⟩
      ·obtain⟨_,_,ys,q2,q3⟩:=hole hl;exact⟨ys,q2,λi' j' a1 a2=>⟨(q3 i' j' a1 a2).1,as8 hx (q3 i' j' a1 a2).2⟩⟩
      ·obtain⟨e,q1,q2⟩:=hK0 b hl hb;exact⟨λhc=>hne (hrep.inj K j _ _ b q1 he q2 (hk0 b (.inl hc))),λi hi hhi hc=>hne (hrep.inj K j _ _ b q1 he q2 (hk0 b (.inr ⟨i,hi,hhi,hc⟩)))⟩
     ·rw[Env.ac6 h1]at hj;by_cases h2:j=K
      ·subst h2;rw[gK];cases e<;>trivial
      ·rw[gj j h1 h2];exact(hrep.ok j e hj).mono (λ_ _ _=>rfl) (λb _ hb=>hx b hb) hle λ_ _=>rfl) (λj j' e e' b hj hj' hb hb'=>by
     obtain⟨k0,e0,q1,q2,q3⟩:=hsrc j e b hj hb;obtain⟨k1,e1,q4,q5,q6⟩:=hsrc j' e' b hj' hb';have:=hrep.inj k0 k1 e0 e1 b q1 q4 q2 q5
     omega)
   exact⟨_,hle,g1,g3⟩
theorem Rep.bU8{w0 X0 H E w}(hrep:Rep w0 X0 H E w){k ver len n c h:Nat}{m:Nat->Nat}{p:Nat->Nat->Nat->SV}{g:Nat->Nat->SV}{T T':TypeId}(hk:H.getD k .dead=.deep ver len n c m p g T T' (some (h,.cap0))):
  ∃E2,E.le E2/\Rep w0 X0 (H.set k (.deep ver len n c (updN m h 0) p g T T' none)) E2 w/\∀b,Xo X0 E2 (H.set k (.deep ver len n c (updN m h 0) p g T T' none)) b->Xo X0 E H b:=by
 have hkl:k<H.length:=lz λhc=>by rw[ae5 hc]at hk;cases hk
 generalize hH2:H.set k (.deep ver len n c (updN m h 0) p g T T' none)=H2;have hlen:H2.length=H.length:=by rw[<-hH2];simp
 have gk:H2.getD k .dead=.deep ver len n c (updN m h 0) p g T T' none:=by rw[<-hH2,ac3 hkl]
 have gj:∀j,j≠k->H2.getD j .dead=H.getD j .dead:=λj h1=>by rw[<-hH2,aa3 h1]
 cases he:E k with
 |none=>
  have hh:∀j e,E j=some e->H2.getD j .dead=H.getD j .dead:=λj e hj=>gj j λhc=>by subst hc;rw[he]at hj;cases hj
  refine⟨E,Env.le_refl _,hrep.ext' (by omega) hh,?_⟩;rw[an4 hh];exactλ_ hb=>hb
 |some e=>
  have hok:=hrep.ok k e he;rw[hk]at hok;cases e with
  |blk=>exact hok.elim
  |slc ver0 v us=>
   obtain⟨rfl,xs,d⟩:=hok;have hole:h<len->∃a,xs.getD (h*n) undef=.slice a 0 0:=λhl=>by
    obtain⟨_,hr⟩:=d.out h .cap0 hl (by simp[hoAt]);exact ba4 hr
   have hnb:h<len->ad7 (xs.getD (h*n) undef)=none:=λhl=>by obtain⟨a,e⟩:=hole hl;rw[e];cases a<;>rfl
   have hle:=cf3 (us':=λi=>if i=h then ad7 (xs.getD (h*n) undef)else us i) he;have hsrc:∀j e b,(E.put k (.slc ver0 v (λi=>if i=h then ad7 (xs.getD (h*n) undef)else us i))) j=some e->holds e (H2.getD j .dead) b->∃e0,E j=some e0/\holds e0 (H.getD j .dead) b:=by
    intro j e b hj hb;by_cases h1:j=k
    ·subst h1;rw[Env.aa8]at hj;cases hj;rw[gk]at hb;refine⟨_,he,?_⟩;rw[hk];rcases hb with hb|⟨i,hi,_,hb⟩
     ·exact .inl hb
     ·by_cases hc:i=h
      ·simp only[ll hc]at hb;rw[hnb (by omega)]at hb;cases hb
      ·simp only[lu hc]at hb;exact .inr ⟨i,hi,az7 (xG hc),hb⟩
    ·rw[Env.ac6 h1]at hj;rw[gj j h1]at hb;exact⟨e,hj,hb⟩
   obtain⟨g1,g3⟩:=hrep.redo (H2:=H2) hle (λj e hj=>by
     by_cases h1:j=k
     ·omega
     ·rw[Env.ac6 h1]at hj;have:=hrep.dom j e hj;omega) (λj e b hj hb=>by obtain⟨e0,q1,q2⟩:=hsrc j e b hj hb;exact⟨j,e0,q1,q2⟩) (λhx j e hj=>by
     by_cases h1:j=k
     ·subst h1;rw[Env.aa8]at hj;cases hj;rw[gk];refine⟨rfl,xs,?_⟩;have hp:updP p h (p h)=p:=by
       funext i;by_cases hc:h=i
       ·subst hc;exact bb5 _ _ _
       ·exact bF2 hc
      rw[<-hp];refine d.fill hx (λhl=>?_) λb hl hb=>by rw[hnb hl]at hb;cases hb
      obtain⟨a,e⟩:=hole hl;exact⟨[],.inl ⟨a,e,rfl,rfl⟩,λi' j' a1=>absurd a1 (ln _)⟩
     ·rw[Env.ac6 h1]at hj;rw[gj j h1];exact(hrep.ok j e hj).mono (λ_ _ _=>rfl) (λb _ hb=>hx b hb) hle λ_ _=>rfl) (λj j' e e' b hj hj' hb hb'=>by
     obtain⟨e0,q1,q2⟩:=hsrc j e b hj hb;obtain⟨e1,q4,q5⟩:=hsrc j' e' b hj' hb';exact hrep.inj j j' e0 e1 b q1 q4 q2 q5)
   exact⟨_,hle,g1,g3⟩
theorem Rep.split{w0 X0 H E w}(hrep:Rep w0 X0 H E w){k:Nat}{e eK:EI}{so2 soK:SO}(he:E k=some e)
  (hsub:∀b,holds e so2 b->holds e (H.getD k .dead) b) (hsubK:∀b,holds eK soK b->holds e (H.getD k .dead) b) (hdis:∀b,holds e so2 b->¬ holds eK soK b)
  (ok:∀X2:Nat->Prop,(∀b,X2 b->Xo X0 E H b)->(∀b,X2 b->Xo X0 E H b)->EIok w X2 (E.put H.length eK) e so2/\EIok w X2 (E.put H.length eK) eK soK):
  E.le (E.put H.length eK)/\Rep w0 X0 (H.set k so2++[soK]) (E.put H.length eK) w/\∀b,Xo X0 (E.put H.length eK) (H.set k so2++[soK]) b->Xo X0 E H b:=by
 have hkl:k<H.length:=hrep.dom k e he;have hnew:E H.length=none:=hrep.known;generalize hH2:H.set k so2++[soK]=H2;have hlen:H2.length=H.length+1:=by rw[<-hH2];simp
 have gk:H2.getD k .dead=so2:=by rw[<-hH2,ab0 (by simpa using hkl),ac3 hkl]
 have gK:H2.getD H.length .dead=soK:=by rw[<-hH2,la,lR (by simp)];simp
 have gj:∀j,j≠k->j≠H.length->H2.getD j .dead=H.getD j .dead:=λj h1 h2=>by
  by_cases hj:j<H.length
  ·rw[<-hH2,ab0 (by simpa using hj),aa3 h1]
  ·rw[ae5 (by omega),ae5 hj]
 have hle:=Env.aQ6 (e:=eK) hnew;have hsrc:∀j e' b,(E.put H.length eK) j=some e'->holds e' (H2.getD j .dead) b->(j=k/\holds e so2 b)\/(j=H.length/\holds eK soK b)\/(j≠k/\j≠H.length/\E j=some e'/\holds e' (H.getD j .dead) b):=by
  intro j e' b hj hb;by_cases h1:j=H.length
  ·subst h1;rw[Env.aa8]at hj;cases hj;rw[gK]at hb;exact .inr (.inl ⟨rfl,hb⟩)
  ·rw[Env.ac6 h1]at hj;by_cases h2:j=k
   ·subst h2;rw[he]at hj;cases hj;rw[gk]at hb;exact .inl ⟨rfl,hb⟩
   ·rw[gj j h2 h1]at hb;exact .inr (.inr ⟨h2,h1,hj,hb⟩)
 obtain⟨g1,g2⟩:=hrep.redo (H2:=H2) hle (λj e' hj=>by
   by_cases h1:j=H.length
   ·omega
   ·rw[Env.ac6 h1]at hj;have:=hrep.dom j e' hj;omega) (λj e' b hj hb=>by
   rcases hsrc j e' b hj hb with⟨rfl,h1⟩|⟨rfl,h1⟩|⟨_,_,h1,h2⟩
   ·exact⟨j,_,he,hsub b h1⟩
   ·exact⟨k,_,he,hsubK b h1⟩
   ·exact⟨j,e',h1,h2⟩) (λhx j e' hj=>by
   by_cases h1:j=H.length
   ·subst h1;rw[Env.aa8]at hj;cases hj;rw[gK];exact(ok _ hx hx).2
   ·rw[Env.ac6 h1]at hj;by_cases h2:j=k
    ·subst h2;rw[he]at hj;cases hj;rw[gk];exact(ok _ hx hx).1
    ·rw[gj j h2 h1];exact(hrep.ok j e' hj).mono (λ_ _ _=>rfl) (λb _ hb=>hx b hb) hle λ_ _=>rfl) (λj j' e1 e2 b hj hj' hb hb'=>by
   have other:∀{j e1},j≠k->E j=some e1->holds e1 (H.getD j .dead) b->holds e (H.getD k .dead) b->False:=λh1 h2 h3 h4=>h1 (hrep.inj _ _ _ _ b h2 he h3 h4)
   rcases hsrc j e1 b hj hb with⟨rfl,h1⟩|⟨rfl,h1⟩|⟨a1,a2,h1,h2⟩<;>rcases hsrc j' e2 b hj' hb' with⟨r1,h3⟩|⟨r1,h3⟩|⟨a3,a4,h3,h4⟩
   ·exact r1.symm
   ·exact(hdis b h1 h3).elim
   ·exact(other a3 h3 h4 (hsub b h1)).elim
   ·exact(hdis b h3 h1).elim
   ·exact r1.symm
   ·exact(other a3 h3 h4 (hsubK b h1)).elim
   ·exact(other a1 h1 h2 (hsub b h3)).elim
   ·exact(other a1 h1 h2 (hsubK b h3)).elim
   ·exact hrep.inj j j' e1 e2 b h1 h3 h2 h4)
 exact⟨hle,g1,g2⟩
theorem Rep.join{w0 X0 H E w}(hrep:Rep w0 X0 H E w){k K:Nat}{e e2 eK:EI}{so2:SO}(he:E k=some e)(heK:E K=some eK)(hne:K≠k)(hle:E.le (E.put k e2))
  (hsub:∀b,holds e2 so2 b->holds e (H.getD k .dead) b\/holds eK (H.getD K .dead) b)
  (ok:∀X2:Nat->Prop,(∀b,X2 b->Xo X0 E H b)->EIok w X2 (E.put k e2) e2 so2):
  Rep w0 X0 ((H.set K .dead).set k so2) (E.put k e2) w/\∀b,Xo X0 (E.put k e2) ((H.set K .dead).set k so2) b->Xo X0 E H b:=by
 have hkl:k<H.length:=hrep.dom k e he;have hKl:K<H.length:=hrep.dom K eK heK;generalize hH2:(H.set K .dead).set k so2=H2;have hlen:H2.length=H.length:=by rw[<-hH2];simp
 have gk:H2.getD k .dead=so2:=by rw[<-hH2,ac3 (by simpa using hkl)]
 have gK:H2.getD K .dead=.dead:=by rw[<-hH2,aa3 hne,ac3 hKl]
 have gj:∀j,j≠k->j≠K->H2.getD j .dead=H.getD j .dead:=λj h1 h2=>by rw[<-hH2,aa3 h1,aa3 h2]
 have hsrc:∀j e' b,(E.put k e2) j=some e'->holds e' (H2.getD j .dead) b->∃k0 e0,E k0=some e0/\holds e0 (H.getD k0 .dead) b/\(j=k/\(k0=k\/k0=K)\/j≠k/\j≠K/\k0=j):=by
  intro j e' b hj hb;by_cases h1:j=k
  ·subst h1;rw[Env.aa8]at hj;cases hj;rw[gk]at hb;rcases hsub b hb with h3|h3
   ·exact⟨j,e,he,h3,.inl ⟨rfl,.inl rfl⟩⟩
   ·exact⟨K,eK,heK,h3,.inl ⟨rfl,.inr rfl⟩⟩
  ·rw[Env.ac6 h1]at hj;have h2:j≠K:=λhc=>by subst hc;rw[gK]at hb;cases e'<;>exact hb
   rw[gj j h1 h2]at hb;exact⟨j,e',hj,hb,.inr ⟨h1,h2,rfl⟩⟩
 exact hrep.redo (H2:=H2) hle (λj e' hj=>by
   by_cases h1:j=k
   ·omega
   ·rw[Env.ac6 h1]at hj;have:=hrep.dom j e' hj;omega) (λj e' b hj hb=>by obtain⟨k0,e0,q1,q2,_⟩:=hsrc j e' b hj hb;exact⟨k0,e0,q1,q2⟩) (λhx j e' hj=>by
   by_cases h1:j=k
   ·subst h1;rw[Env.aa8]at hj;cases hj;rw[gk];exact ok _ hx
   ·rw[Env.ac6 h1]at hj;by_cases h2:j=K
    ·subst h2;rw[gK];cases e'<;>trivial
    ·rw[gj j h1 h2];exact(hrep.ok j e' hj).mono (λ_ _ _=>rfl) (λb _ hb=>hx b hb) hle λ_ _=>rfl) (λj j' e1 e2' b hj hj' hb hb'=>by
   obtain⟨k0,e0,q1,q2,q3⟩:=hsrc j e1 b hj hb;obtain⟨k1,e1',q4,q5,q6⟩:=hsrc j' e2' b hj' hb';have:=hrep.inj k0 k1 e0 e1' b q1 q4 q2 q5
   omega)
theorem aG4{h y:Int}{sv:SV}{fl:Bool}:hoI (some (h,sv,fl)) y=none<->h≠y:=by
 simp only[hoI];split<;>simp_all
theorem Rep.bv6{w0 X0 H E w}(hrep:Rep w0 X0 H E w){k c:Nat}{kd:IntKind}{has:Int->Bool}{m:Int->Nat}{p:Int->Nat->Nat->SV}{T':TypeId}(hk:H.getD k .dead=.mps kd has c m p T' none)(i:Int):
  ∃E2,E.le E2/\Rep w0 X0 (H.set k (.mps kd has c m p T' (some (i,.osl H.length 0,false)))++[.row 0 (m i) c (p i) T']) E2 w/\∀b,Xo X0 E2 (H.set k (.mps kd has c m p T' (some (i,.osl H.length 0,false)))++[.row 0 (m i) c (p i) T']) b->Xo X0 E H b:=by
 have hkl:k<H.length:=lz λhc=>by rw[ae5 hc]at hk;cases hk
 cases he:E k with
 |none=>
  have hh:∀j e,E j=some e->(H.set k (SO.mps kd has c m p T' (some (i,.osl H.length 0,false)))++[SO.row 0 (m i) c (p i) T']).getD j .dead=H.getD j .dead:=λj e hj=>by
   have h1:j≠k:=λhc=>by subst hc;rw[he]at hj;cases hj
   have h2:=hrep.dom j e hj;rw[ab0 (by simpa using h2),aa3 h1]
  refine⟨E,Env.le_refl _,hrep.ext' (by simp) hh,λb hb=>?_⟩;rwa[an4 hh]at hb
 |some e=>
  have hok:=hrep.ok k e he;rw[hk]at hok;cases e with
  |blk=>exact hok.elim
  |slc ver v us=>
   obtain⟨rfl,b,es,clock,rfl,hb,d⟩:=hok;obtain⟨u,hu1,hu2,hu3,ys,hu4,hu5⟩:∃u,(∀e∈es.toList,e.key=.int kd i->e.val=u)/\(has i=false->u=.slice none 0 0)/\ad7 u=us (encI i)/\aA3 w (Xo X0 E H) c T' u (m i) (p i):=by
    cases hi:has i with
    |true=>
     obtain⟨e,he',hke⟩:=(d.map.iff [i] rfl).1 hi;obtain⟨q1,q2⟩:=d.inn i e he' hke rfl;exact⟨e.val,λe2 h2 hk2=>by rw[d.map.uniq h2 he' (hk2.trans hke.symm)],λhc=>(nomatch hc),q1,q2⟩
    |false=>
     obtain⟨q1,q2⟩:=d.gone i hi;refine⟨.slice none 0 0,λe he' hke=>?_,λ_=>rfl,by rw[q2];rfl,[],.inl ⟨none,rfl,q1,rfl⟩,λa b ha=>by omega⟩;have:=(d.map.iff [i] rfl).2 ⟨e,he',hke⟩
     simp only[uf]at this;rw[hi]at this;cases this
   have hus:∃a n c,u=.slice a n c:=by
    rcases hu4 with⟨a,rfl,_⟩|⟨b',oo,cap,cur,rfl,_⟩<;>exact⟨_,_,_,rfl⟩
   have as2:∀b',us (encI i)=some b'->∃cc TT ff,w.heap[b']?=some (.cells cc TT ff):=λb' hb'=>by
    rw[<-hu3]at hb';rcases hu4 with⟨a,rfl,_⟩|⟨b2,_,cap,cur,rfl,q2,_⟩
    ·cases a<;>simp[ad7]at hb'
    ·simp only[ad7,sk]at hb';subst hb';exact⟨_,_,_,q2⟩
   obtain⟨s1,s2,s3⟩:=hrep.split (so2:= .mps kd has c m p T' (some (i,.osl H.length 0,false))) (eK:= .slc 0 u (λ_=>none)) (soK:= .row 0 (m i) c (p i) T') he
    (λb' hb'=>by
     rw[hk];rcases hb' with hb'|⟨y,h1,h2⟩
     ·exact .inl hb'
     ·exact .inr ⟨y,rfl,h2⟩)
    (λb' hb'=>by rw[hk];exact .inr ⟨i,rfl,hu3▸hb'⟩)
    (λb' h1 h2=>by
     have h3:us (encI i)=some b':=hu3▸h2;rcases h1 with h1|⟨y,h4,h5⟩
     ·simp only[mblk,sk]at h1;subst h1;obtain⟨cc,TT,ff,h9⟩:=as2 _ h3;rw[hb]at h9;cases h9
     ·exact(aG4.1 h4) (d.inj i y b' rfl rfl h3 h5))
    (λX2 hx _=>⟨⟨rfl,b,es,clock,rfl,hb,d.map,λy e' he' hke hh=>by
      obtain⟨q1,ys',q2,q3⟩:=d.inn y e' he' hke rfl;exact⟨q1,ys',q2,λi' j' a1 a2=>⟨(q3 i' j' a1 a2).1,as8 hx (q3 i' j' a1 a2).2⟩⟩,d.gone,λh sv fl hho=>by
      cases hho;exact⟨λhc=>(nomatch hc),λe' he' hke=>by rw[hu1 e' he' hke];exact .osl (Env.aa8 _ _ _) hus,λhz=>by rw[<-hu2 hz];exact .osl (Env.aa8 _ _ _) hus⟩,λy y' b' _ _=>d.inj y y' b' rfl rfl⟩,
     rfl,ys,hu4,λi' j' a1 a2=>⟨(hu5 i' j' a1 a2).1,as8 hx (hu5 i' j' a1 a2).2⟩⟩)
   exact⟨_,s1,s2,s3⟩
theorem bF3(m:Int->Nat)(h:Int)(x:Nat):updI m h x h=x:=by unfold updI;rw[lg rfl];rfl
theorem bF4{m:Int->Nat}{h i:Int}{x:Nat}(hne:h≠i):updI m h x i=m i:=by unfold updI;rw[lf (xG hne)];rfl
theorem by4(p:Int->Nat->Nat->SV)(h:Int)(q:Nat->Nat->SV):aZ5 p h q h=q:=by funext a b;unfold aZ5;rw[ae4,lg rfl];rfl
theorem bU7{p:Int->Nat->Nat->SV}{h i:Int}{q:Nat->Nat->SV}(hne:h≠i):aZ5 p h q i=p i:=by funext a b;unfold aZ5;rw[ae4,lf (xG hne)];rfl
theorem Rep.aL1{w0 X0 H E w}(hrep:Rep w0 X0 H E w){k K c ver' len2:Nat}{h:Int}{kd:IntKind}{has:Int->Bool}{m:Int->Nat}{p:Int->Nat->Nat->SV}{g2:Nat->Nat->SV}{T':TypeId}(hk:H.getD k .dead=.mps kd has c m p T' (some (h,.osl K ver',true)))
  (hK:H.getD K .dead=.row ver' len2 c g2 T') (hne:K≠k):
  ∃E2,E.le E2/\Rep w0 X0 ((H.set K .dead).set k (.mps kd has c (updI m h len2) (aZ5 p h g2) T' none)) E2 w/\∀b,Xo X0 E2 ((H.set K .dead).set k (.mps kd has c (updI m h len2) (aZ5 p h g2) T' none)) b->Xo X0 E H b:=by
 have hkl:k<H.length:=lz λhc=>by rw[ae5 hc]at hk;cases hk
 have hKl:K<H.length:=lz λhc=>by rw[ae5 hc]at hK;cases hK
 cases he:E k with
 |none=>
  generalize hH2:(H.set K .dead).set k (.mps kd has c (updI m h len2) (aZ5 p h g2) T' none)=H2;have gK:H2.getD K .dead=.dead:=by rw[<-hH2,aa3 hne,ac3 hKl]
  have gj:∀j,j≠k->j≠K->H2.getD j .dead=H.getD j .dead:=λj h1 h2=>by rw[<-hH2,aa3 h1,aa3 h2]
  have hlen:H2.length=H.length:=by rw[<-hH2];simp
  have hhold:∀j e b,E j=some e->holds e (H2.getD j .dead) b->j≠k/\j≠K/\holds e (H.getD j .dead) b:=λj e b hj hb=>by
   have h1:j≠k:=λhc=>by subst hc;rw[he]at hj;cases hj
   have h2:j≠K:=λhc=>by subst hc;rw[gK]at hb;cases e<;>exact hb
   exact⟨h1,h2,by rwa[gj j h1 h2]at hb⟩
  obtain⟨g1,g2⟩:=hrep.redo (H2:=H2) (E2:=E) (Env.le_refl _) (λj e hj=>by have:=hrep.dom j e hj;omega) (λj e b hj hb=>⟨j,e,hj,(hhold j e b hj hb).2.2⟩) (λhx j e hj=>by
    have h1:j≠k:=λhc=>by subst hc;rw[he]at hj;cases hj
    by_cases h2:j=K
    ·subst h2;rw[gK];cases e<;>trivial
    ·rw[gj j h1 h2];exact(hrep.ok j e hj).mono (λ_ _ _=>rfl) (λb _ hb=>hx b hb) (Env.le_refl _) λ_ _=>rfl) (λj j' e e' b hj hj' hb hb'=>hrep.inj j j' e e' b hj hj' (hhold j e b hj hb).2.2 (hhold j' e' b hj' hb').2.2)
  exact⟨E,Env.le_refl _,g1,g2⟩
 |some e=>
  have hok:=hrep.ok k e he;rw[hk]at hok;cases e with
  |blk=>exact hok.elim
  |slc ver v us=>
   obtain⟨rfl,b,es,clock,rfl,hb,d⟩:=hok;obtain⟨o1,o2,o3⟩:=d.out _ _ _ rfl;have hth:=o1 rfl;obtain⟨e0,he0,hke0⟩:=(d.map.iff [h] rfl).1 hth;obtain⟨usK,heK,ys,q2,q3⟩:∃usK,E K=some (.slc ver' e0.val usK)/\∃ys,ah4 w T' c e0.val len2 ys/\∀i j,i<len2->j<c->ab1 (ys.getD (i*c+j) undef)/\R w (Xo X0 E H) E0 (g2 i j) (ys.getD (i*c+j) undef):=by
    have hr:=o2 e0 he0 hke0;generalize hv0:e0.val=v0 at hr;cases hr with
    |osl he' hv=>
     have hok':=hrep.ok K _ he';rw[hK]at hok';exact⟨_,he',hok'.2⟩
    |oslOld he' hlt hv=>
     have hok':=hrep.ok K _ he';rw[hK]at hok';have:=hok'.1
     omega
   have hKh:∀b',ad7 e0.val=some b'->holds (.slc ver' e0.val usK) (H.getD K .dead) b':=λb' hb'=>by rw[hK];exact hb'
   have hle:=cf3 (us':=λn=>if n=encI h then ad7 e0.val else us n) he;have hus:∀y,h≠y->(if encI y=encI h then ad7 e0.val else us (encI y))=us (encI y):=λy hy=>lu λhc=>hy (b05 hc).symm
   obtain⟨s2,s3⟩:=hrep.join (so2:= .mps kd has c (updI m h len2) (aZ5 p h g2) T' none) he heK hne hle
    (λb' hb'=>by
     rw[hk];rcases hb' with hb'|⟨y,_,h2⟩
     ·exact .inl (.inl hb')
     ·by_cases hy:h=y
      ·subst hy;simp only[ll rfl]at h2;exact .inr (hKh b' h2)
      ·simp only[hus y hy]at h2;exact .inl (.inr ⟨y,aG4.2 hy,h2⟩))
    (λX2 hx=>⟨rfl,b,es,clock,rfl,hb,d.map,λy e' he' hke _=>by
      by_cases hy:h=y
      ·subst hy;have:=d.map.uniq he' he0 (hke.trans hke0.symm)
       subst this;rw[bF3,by4];exact⟨(ll rfl).symm,ys,q2,λi' j' a1 a2=>⟨(q3 i' j' a1 a2).1,as8 hx (q3 i' j' a1 a2).2⟩⟩
      ·rw[bF4 hy,bU7 hy];obtain⟨r1,ys',r2,r3⟩:=d.inn y e' he' hke (aG4.2 hy);exact⟨r1.trans (hus y hy).symm,ys',r2,λi' j' a1 a2=>⟨(r3 i' j' a1 a2).1,as8 hx (r3 i' j' a1 a2).2⟩⟩,λy hz=>by
      have hy:h≠y:=λhc=>by subst hc;rw[hth]at hz;cases hz
      rw[bF4 hy];exact⟨(d.gone y hz).1,(hus y hy).trans (d.gone y hz).2⟩,λ_ _ _ hho=>(nomatch hho),λy y' b' _ _ h1 h2=>by
      have tok:∀b',ad7 e0.val=some b'->∀z,h≠z->us (encI z)=some b'->False:=λb' hb' z hz hc=>hne (hrep.inj K k _ _ b' heK he (hKh b' hb') (by rw[hk];exact .inr ⟨z,aG4.2 hz,hc⟩))
      by_cases hy:h=y
      ·subst hy;simp only[ll rfl]at h1;by_cases hy':h=y'
       ·exact hy'
       ·simp only[hus y' hy']at h2;exact(tok b' h1 y' hy' h2).elim
      ·simp only[hus y hy]at h1;by_cases hy':h=y'
       ·subst hy';simp only[ll rfl]at h2;exact(tok b' h2 y hy h1).elim
       ·simp only[hus y' hy']at h2;exact d.inj y y' b' (aG4.2 hy) (aG4.2 hy') h1 h2⟩)
   exact⟨_,hle,s2,s3⟩
theorem Rep.a68{w0 X0 H E w}(hrep:Rep w0 X0 H E w){k c:Nat}{kd:IntKind}{has:Int->Bool}{m:Int->Nat}{p:Int->Nat->Nat->SV}{T':TypeId}(hk:H.getD k .dead=.mps kd has c m p T' none):
  Rep w0 X0 (H.set k (.mpi (.one kd) true (λl=>has (l.getD 0 0)) (λl=> .sl (m (l.getD 0 0)) c (p (l.getD 0 0))))) E w/\ab7 (Xo X0 E H) (Xo X0 E (H.set k (.mpi (.one kd) true (λl=>has (l.getD 0 0)) (λl=> .sl (m (l.getD 0 0)) c (p (l.getD 0 0)))))) w:=by
 have hkl:k<H.length:=lz λhc=>by rw[ae5 hc]at hk;cases hk
 cases he:E k with
 |none=>
  have hh:∀j e,E j=some e->(H.set k (.mpi (.one kd) true (λl=>has (l.getD 0 0)) (λl=> .sl (m (l.getD 0 0)) c (p (l.getD 0 0))))).getD j .dead=H.getD j .dead:=λj e hj=>aa3 λhc=>by subst hc;rw[he]at hj;cases hj
  refine⟨hrep.ext' (by simp) hh,?_⟩;rw[an4 hh];exact ab7.refl _ _
 |some e=>
  have hok:=hrep.ok k e he;rw[hk]at hok;cases e with
  |blk=>exact hok.elim
  |slc ver v us=>
   obtain⟨rfl,b,es,clock,rfl,hb,d⟩:=hok;have hput:E.put k (.slc 0 (.map (some b)) us)=E:=Env.af6 he;have hu:=hrep.upd (w':=w) (e':= .slc 0 (.map (some b)) us) (so':= .mpi (.one kd) true (λl=>has (l.getD 0 0)) (λl=> .sl (m (l.getD 0 0)) c (p (l.getD 0 0)))) he (by rw[hput];exact Env.le_refl _) (λ_ _ _=>rfl) rfl rfl rfl (lh _)
    (λb' hb'=> .inl (by rw[hk];exact .inl hb')) (λhke hwi hfree=>⟨rfl,b,es,clock,rfl,hb,d.map,λl e hl he' hke'=>(by
     match l,hl with
     | [y],_=>
      simp only[uf];obtain⟨q1,ys,q2,q3⟩:=d.inn y e he' hke' rfl;refine q2.toSl (T:=T') (λb' hb'=>?_) λi j hi hj=>⟨(q3 i j hi hj).1,(q3 i j hi hj).2.mono hke hwi (Env.le_refl _)⟩
      refine hfree b' (by rw[hk];exact .inr ⟨y,rfl,q1▸hb'⟩) λhc=>?_
      simp only[holds,mblk,sk]at hc;subst hc;rcases q2 with⟨a,q4,_⟩|⟨b2,_,cap,cur,q4,q5,_⟩
      ·rw[q4]at hb';cases a<;>simp[ad7]at hb'
      ·rw[q4]at hb';simp only[ad7,sk]at hb';subst hb';rw[hb]at q5;cases q5),λ_ l hl hz=>(by
     match l,hl with
     | [y],_=>
      simp only[uf]at hz⊢;rw[(d.gone y hz).1];exact .sl0)⟩)
   rw[hput]at hu;exact⟨hu.1,hu.2.2⟩
theorem bi4{w0 X0 N m}(hnm:∀k,X0.nm k≠none->k<m){s s':St}{p:PrepA}(hp:an1 m N s p=some s'){a:Act}{w:World}(h:StR w0 X0 N s a w):StR w0 X0 N s' a w:=by
 obtain⟨E,hrep,htr⟩:=h;have tput:∀{X:Nat->Prop}{E':Env}{τ:Tmps}{t:Nat}{v:SV},TR (X0.n0 w0) w X E' N τ a->(t<N->R w X E' v (a.tmps.getD t undef))->TR (X0.n0 w0) w X E' N ((t,v)::τ) a:=by
  intro X E' τ t v ht hv;refine⟨ht.1,ht.2.1,λu hu=>?_⟩;simp only[ac5];split
  ·rename_i hc;subst hc;exact hv hu
  ·exact ht.2.2 u hu
 cases p with
 |tmp t=>
  simp only[an1]at hp;split at hp
  case h_2=>cases hp
  rename_i l hl;split at hp
  case h_2=>cases hp
  rename_i v hv;cases hp;obtain⟨g1,g2⟩:=ag6 _ _ _ hrep hl;have htr':=htr.mono (w':=w) (λ_ _ _=>rfl) g2 (Env.le_refl _);exact⟨E,g1,tput htr' λht=>up (ap7 g1 6 _ _ _ hv (htr'.2.2 t ht))⟩
 |cells k=>
  simp only[an1]at hp;split at hp
  case h_2=>cases hp
  split at hp
  case h_2=>cases hp
  rename_i l hl;split at hp
  case h_2=>cases hp
  rename_i n g T hk;obtain⟨hall,rfl⟩:=aa0 hp;obtain⟨g1,g2⟩:=ag6 _ _ _ hrep hl;obtain⟨g3,g4⟩:=g1.co5 hk (g':=λi=>(pur (ad5 s.H l) 6 (g i)).getD .any) λi v hi hr=>up (ap7 g1 6 _ _ _ (ai2 (ad1 hall hi)) hr)
  exact⟨E,g3,htr.mono (w':=w) (λ_ _ _=>rfl) (g2.trans g4) (Env.le_refl _)⟩
 |own t T n=>
  simp only[an1]at hp;split at hp
  case h_2=>cases hp
  rename_i hl;cases hp;by_cases ht:t<N
  ·obtain⟨ad,hv⟩:=ba4 (hl▸htr.2.2 t ht);obtain⟨g1,g2,g3⟩:=hrep.empty n T ad;exact⟨_,g1,tput (htr.mono (w':=w) (λ_ _ _=>rfl) g2 g3) λ_=>by rw[hv];exact .osl (Env.aa8 _ _ _) ⟨_,_,_,rfl⟩⟩
  ·obtain⟨g1,g2,g3⟩:=hrep.empty n T none;exact⟨_,g1,tput (htr.mono (w':=w) (λ_ _ _=>rfl) g2 g3) λhc=>absurd hc ht⟩
 |ownC k off T n=>
  simp only[an1]at hp;split at hp
  case h_2=>cases hp
  rename_i m g T' hk;split at hp
  case h_2=>cases hp
  rename_i hg;obtain⟨hlt,rfl⟩:=aa0 hp;cases he:E k with
  |none=>
   obtain⟨g1,g2,g3⟩:=hrep.empty n T none;have hkl:k≠s.H.length:=by
    intro hc;rw[hc,la,xC (lh _)]at hk;cases hk
   have he':(E.put s.H.length (.slc 0 (.slice none 0 0) (λ_=>none))) k=none:=by rw[Env.ac6 hkl];exact he
   have hh:∀j e,(E.put s.H.length (.slc 0 (.slice none 0 0) (λ_=>none))) j=some e->((s.H++[ah0 n T]).set k (.cells m (updF g off 1 (λ_=> .osl s.H.length 0)) T')).getD j .dead=(s.H++[ah0 n T]).getD j .dead:=
    λj e hj=>aa3 (λhc=>by subst hc;rw[he']at hj;cases hj)
   refine⟨_,g1.ext' (by simp) hh,?_⟩;rw[an4 hh];exact htr.mono (w':=w) (λ_ _ _=>rfl) g2 g3
  |some e=>
   have hok:=hrep.ok k e he;rw[hk]at hok;cases e with
   |slc=>exact hok.elim
   |blk b=>
    obtain⟨vs,h1,h2,h3⟩:=hok;obtain⟨ad,hv⟩:=ba4 (hg▸(h3 off hlt).2);obtain⟨g1,g2,g3⟩:=hrep.empty n T ad;have hkl:k<s.H.length:=hrep.dom k _ he;have hk':(s.H++[ah0 n T]).getD k .dead=.cells m g T':=by rw[ab0 hkl];exact hk
    have hput:(E.put s.H.length (.slc 0 (.slice ad 0 0) (λ_=>none))) k=some (.blk b):=by rw[Env.ac6 (by omega)];exact he
    have hself:(E.put s.H.length (.slc 0 (.slice ad 0 0) (λ_=>none))).put k (.blk b)=E.put s.H.length (.slc 0 (.slice ad 0 0) (λ_=>none)):=Env.af6 hput;have hu:=g1.upd (w':=w) (e':= .blk b) (so':= .cells m (updF g off 1 (λ_=> .osl s.H.length 0)) T') hput (by rw[hself];exact Env.le_refl _) (λ_ _ _=>rfl) rfl rfl rfl (lh _) (λb' hb'=> .inl (by rw[hk'];exact hb'))
     (λhke hwi _=>by
      rw[hself]at *
      refine⟨vs,h1,h2,λi hi=>⟨(h3 i hi).1,?_⟩⟩;by_cases hio:off<=i/\i<off+1
      ·rw[aZ7 hio];obtain rfl:i=off:=by omega
       rw[hv];exact .osl (Env.aa8 _ _ _) ⟨_,_,_,rfl⟩
      ·rw[aZ6 hio];exact((h3 i hi).2.mono (w':=w) (λ_ _ _=>rfl) g2 g3).mono hke hwi (Env.le_refl _))
    rw[hself]at hu;exact⟨_,hu.1,(htr.mono (w':=w) (λ_ _ _=>rfl) g2 g3).mono (w':=w) (λ_ _ _=>rfl) hu.2.2 (Env.le_refl _)⟩
 |shrink t=>
  simp only[an1]at hp;split at hp
  case h_2=>cases hp
  rename_i hb;have ht:t<N:=lN hb;split at hp
  case h_2=>cases hp
  rename_i k ver n lo len hl;split at hp
  case h_2=>
   rename_i lo;split at hp
   case h_2=>cases hp
   rename_i ver' len0 m g T hk;obtain⟨⟨rfl,rfl⟩,rfl⟩:=aa0 hp;have hR:R w (Xo X0 E s.H) E (.win k ver n (lo+1) len) (a.tmps.getD t undef):=hl▸htr.2.2 t ht;generalize hvv:a.tmps.getD t undef=v at hR;cases hR with
   |winOld he hlt hv=>
    have hok:=hrep.ok k _ he;rw[hk]at hok;have:=hok.1
    omega
   |win he hle ha h0=>
    rename_i a1 a0 len1 cap0 us;have hok:=hrep.ok k _ he;rw[hk]at hok;obtain⟨_,xs,hown,hcont⟩:=hok;have hw:ah4 w T n (.slice a1 len (cap0-(lo+1))) len ((xs.drop ((lo+1)*n)).take (len*n))/\lo+1+len<=len0:=by
     rcases hown with⟨a',hv',rfl,rfl⟩|⟨b,oo,cap,cur,hv',c1,c2,c3,c4,c5,c6⟩
     ·cases hv';omega
     ·cases hv';have hle3:=lk n hle;rw[lL]at hle3;by_cases hz:cap+1-(lo+1)=0
      ·have h00:len=0:=by omega
       subst h00;exact⟨.inl ⟨a1,by rw[hz],rfl,by simp⟩,hle⟩
      ·have hadd:a1=some ⟨b,oo+(lo+1)*n,none⟩:=by rw[ha hz,lD];exact congrArg some (ad9 b oo _)
       subst hadd;obtain⟨cap',hcap'⟩:∃cap',cap+1-(lo+1)=cap'+1:=⟨cap+1-(lo+1)-1,by omega⟩
       rw[hcap'];have e:(cap+1)*n=(lo+1)*n+(cap'+1)*n:=by rw[<-lL];congr 1;omega
       refine⟨.inr ⟨b,oo+(lo+1)*n,cap',cur,rfl,c1,by omega,by omega,by rw[c4,e];omega,?_,?_⟩,hle⟩
       ·rw[<-c5,List.drop_take,List.drop_drop,List.take_take,uv (by omega)]
       ·rw[xu,xH,c6];omega
    have hle2:E.le (E.put k (.slc (ver+1) (.slice a1 len (cap0-(lo+1))) us)):=bf9 he _ us;have hholds:∀b,holds (.slc (ver+1) (.slice a1 len (cap0-(lo+1))) us) (.row (ver+1) len n (λi j=>g (lo+1+i) j) T) b->holds (.slc ver (.slice a0 len1 cap0) us) (s.H.getD k .dead) b:=by
     intro b hb;rw[hk];have hb:ad7 (.slice a1 len (cap0-(lo+1)))=some b:=hb;show ad7 (.slice a0 len1 cap0)=some b;by_cases hz:cap0-(lo+1)=0
     ·rw[hz]at hb;cases a1<;>cases hb
     ·rw[ha hz]at hb;cases a0 with
      |none=>cases hb
      |some ad=>
       cases cap0 with
       |zero=>omega
       |succ cap=>
        obtain⟨c',hc'⟩:∃c',cap+1-(lo+1)=c'+1:=⟨cap+1-(lo+1)-1,by omega⟩
        rw[hc']at hb;have hbl:(ad.add ((lo+1)*n)).block=ad.block:=by unfold Addr.add;first|rfl|(split<;>rfl)
        simp only[lD,ad7,sk]at hb⊢;rw[<-hb,hbl]
    have hu:=hrep.upd (w':=w) (e':= .slc (ver+1) (.slice a1 len (cap0-(lo+1))) us) (so':= .row (ver+1) len n (λi j=>g (lo+1+i) j) T) he hle2 (λ_ _ _=>rfl) rfl rfl rfl (lh _) (λb hb'=> .inl (hholds b hb'))
     (λhke hwi _=>⟨rfl,_,hw.1,λi j hi hj=>by
      have hge:((xs.drop ((lo+1)*n)).take (len*n)).getD (i*n+j) undef=xs.getD ((lo+1+i)*n+j) undef:=by
       rw[la,xR,ll (ab8 hi hj),xx,la,lL (lo+1) i n,xf]
      rw[hge];exact⟨(hcont (lo+1+i) j (by omega) hj).1,(hcont (lo+1+i) j (by omega) hj).2.mono hke hwi (Env.le_refl _)⟩⟩)
    refine⟨_,hu.1,tput (htr.mono (w':=w) (λ_ _ _=>rfl) hu.2.2 hle2) λ_=>?_⟩;rw[hvv];exact .osl (Env.aa8 _ _ _) ⟨_,_,_,rfl⟩
  split at hp
  case h_2=>cases hp
  rename_i ver' len0 m g T hk;obtain⟨⟨rfl,rfl⟩,rfl⟩:=aa0 hp;have hR:R w (Xo X0 E s.H) E (.win k ver n 0 len) (a.tmps.getD t undef):=hl▸htr.2.2 t ht;generalize hvv:a.tmps.getD t undef=v at hR;cases hR with
  |winOld he hlt hv=>
   have hok:=hrep.ok k _ he;rw[hk]at hok;have:=hok.1
   omega
  |win he hle ha h0=>
   rename_i a1 a0 len1 cap0 us;have hok:=hrep.ok k _ he;rw[hk]at hok;obtain⟨_,xs,hown,hcont⟩:=hok;have hw:ah4 w T n (.slice a0 len cap0) len (xs.take (len*n))/\len<=len0:=by
    rcases hown with⟨a',hv',rfl,rfl⟩|⟨b,oo,cap,cur,hv',c1,c2,c3,c4,c5,c6⟩
    ·cases hv';obtain rfl:len=0:=by omega
     exact⟨.inl ⟨_,rfl,rfl,by simp⟩,lh _⟩
    ·cases hv';have hm:=lk n (show len<=len0 by omega);refine⟨.inr ⟨b,oo,cap,cur,rfl,c1,by omega,c3,c4,by rw[<-c5,List.take_take,uv hm],by rw[xu,c6];exact uv hm⟩,by omega⟩
   have hle2:E.le (E.put k (.slc (ver+1) (.slice a0 len cap0) us)):=by
    refine⟨λj b hj=>?_,λj ver' v'' us'' hj=>?_⟩
    ·by_cases hjk:j=k
     ·subst hjk;rw[he]at hj;cases hj
     ·rw[Env.ac6 hjk];exact hj
    ·by_cases hjk:j=k
     ·subst hjk;rw[he]at hj;cases hj;exact⟨_,_,_,Env.aa8 _ _ _,lab _,λhc=>by omega⟩
     ·exact⟨_,_,_,by rw[Env.ac6 hjk];exact hj,lh _,λ_=>rfl⟩
   have hholds:∀b,holds (.slc (ver+1) (.slice a0 len cap0) us) (.row (ver+1) len n g T) b->holds (.slc ver (.slice a0 len1 cap0) us) (s.H.getD k .dead) b:=by
    intro b hb;rw[hk];cases a0<;>cases cap0<;>exact hb
   have hu:=hrep.upd (w':=w) (e':= .slc (ver+1) (.slice a0 len cap0) us) (so':= .row (ver+1) len n g T) he hle2 (λ_ _ _=>rfl) rfl rfl rfl (lh _) (λb hb'=> .inl (hholds b hb'))
    (λhke hwi _=>⟨rfl,_,hw.1,λi j hi hj=>by
     rw[show(xs.take (len*n)).getD (i*n+j) undef=xs.getD (i*n+j) undef by
      rw[la,xR,ll (ab8 hi hj),la]]
     exact⟨(hcont i j (by omega) hj).1,(hcont i j (by omega) hj).2.mono hke hwi (Env.le_refl _)⟩⟩)
   refine⟨_,hu.1,tput (htr.mono (w':=w) (λ_ _ _=>rfl) hu.2.2 hle2) λ_=>?_⟩;have hv0:a1=a0:=h0 rfl;subst hv0;rw[hvv];exact .osl (Env.aa8 _ _ _) ⟨_,_,_,rfl⟩
 |nilc t=>cases hp
 |mv j k=>
  simp only[an1]at hp;split at hp
  case h_2=>cases hp
  rename_i hb;cases hp;simp only[lr,uJ]at hb;obtain⟨⟨h1,h2⟩,h3,h4⟩:=hb;obtain⟨g1,g2⟩:=hrep.ren hnm (lN h1) (lN h2) (lN h3) (uF h4);refine⟨_,g1,htr.1,htr.2.1.mono (λ_ _ _=>rfl) (λb _ hb=>g2 b hb),λt ht=>?_⟩;rw[bf8 (f:=ren j k) rfl];exact bU0 g2 (uF h4) (htr.2.2 t ht)
 |deepen k c T'=>
  simp only[an1]at hp;split at hp
  case h_2=>cases hp
  rename_i ver len n g T hk;split at hp
  case h_2=>cases hp
  rename_i n;cases hp;cases he:E k with
  |none=>
   have hh:∀j e,E j=some e->(s.H.set k (.deep ver 0 (n+1) c (λ_=>0) (λ_ _ _=> .any) (λ_ _=> .any) T T' none)).getD j .dead=s.H.getD j .dead:=λj e hj=>aa3 (λhc=>by subst hc;rw[he]at hj;cases hj)
   refine⟨E,hrep.ext' (by simp) hh,?_⟩;rw[an4 hh];exact htr
  |some e=>
   have hok:=hrep.ok k e he;rw[hk]at hok;cases e with
   |blk=>exact hok.elim
   |slc ver' v us=>
    obtain⟨rfl,xs,hown,_⟩:=hok;have hput:E.put k (.slc ver' v us)=E:=Env.af6 he;have hu:=hrep.upd (w':=w) (e':= .slc ver' v us) (so':= .deep ver' 0 (n+1) c (λ_=>0) (λ_ _ _=> .any) (λ_ _=> .any) T T' none) he (by rw[hput];exact Env.le_refl _) (λ_ _ _=>rfl) rfl rfl rfl (lh _)
     (λb hb=>by
      rcases hb with hb|⟨i,hi,_⟩
      ·exact .inl (by rw[hk];exact hb)
      ·exact absurd hi (ln _))
     (λ_ _ _=>⟨rfl,xs,xF _,hown,λi j hi=>absurd hi (ln _),λi sv hi=>absurd hi (ln _),λi hi=>absurd hi (ln _),λi b hi=>absurd hi (ln _),λi i' b hi=>absurd hi (ln _)⟩)
    rw[hput]at hu;exact⟨E,hu.1,htr.mono (w':=w) (λ_ _ _=>rfl) hu.2.2 (Env.le_refl _)⟩
 |focus k t=>
  simp only[an1]at hp;split at hp
  case h_2=>cases hp
  rename_i kd i hl;split at hp
  case h_2=>cases hp
  rename_i ver len n c m p g T T' ho hk;split at hp
  case h_2=>cases hp
  cases hp;obtain⟨E2,hle,g1,g2⟩:=hrep.focus hk i.toNat;exact⟨E2,g1,htr.mono (w':=w) (λ_ _ _=>rfl) (λb _ hb=>g2 b hb) hle⟩
 |aE6 k=>
  simp only[an1]at hp;split at hp
  case h_2=>cases hp
  rename_i ver len n c m p g T T' ho hk;split at hp
  case h_2=>cases hp
  rename_i h sv;split at hp
  ·rename_i K ver';split at hp
   case h_2=>cases hp
   rename_i ver2 len2 c2 g2 T2 hK;obtain⟨⟨⟨⟨rfl,rfl⟩,rfl⟩,hne⟩,rfl⟩:=aa0 hp;obtain⟨E2,hle,g1,g2⟩:=hrep.aE6 hk hK hne;exact⟨E2,g1,htr.mono (w':=w) (λ_ _ _=>rfl) (λb _ hb=>g2 b hb) hle⟩
  ·cases hp;obtain⟨E2,hle,g1,g2⟩:=hrep.bU8 hk;exact⟨E2,g1,htr.mono (w':=w) (λ_ _ _=>rfl) (λb _ hb=>g2 b hb) hle⟩
  ·cases hp
 |bv6 k t=>
  simp only[an1]at hp;split at hp
  case h_2=>cases hp
  rename_i kd i hl;split at hp
  case h_2=>cases hp
  rename_i kd has c m p T' ho hk;split at hp
  case h_2=>cases hp
  cases hp;obtain⟨E2,hle,g1,g2⟩:=hrep.bv6 hk i;exact⟨E2,g1,htr.mono (w':=w) (λ_ _ _=>rfl) (λb _ hb=>g2 b hb) hle⟩
 |aL1 k=>
  simp only[an1]at hp;split at hp
  case h_2=>cases hp
  rename_i kd has c m p T' ho hk;split at hp
  case h_2=>cases hp
  rename_i q;obtain⟨h,sv,fl⟩:=q;simp only at hp
  split at hp
  case h_2=>cases hp
  rename_i K ver';split at hp
  case h_2=>cases hp
  rename_i ver2 len2 c2 g2 T2 hK;obtain⟨⟨⟨⟨rfl,rfl⟩,rfl⟩,hne,rfl⟩,rfl⟩:=aa0 hp;obtain⟨E2,hle,g1,g2⟩:=hrep.aL1 hk hK hne;exact⟨E2,g1,htr.mono (w':=w) (λ_ _ _=>rfl) (λb _ hb=>g2 b hb) hle⟩
 |a68 k=>
  simp only[an1]at hp;split at hp
  case h_2=>cases hp
  rename_i kd has c m p T' ho hk;split at hp
  case h_2=>cases hp
  cases hp;obtain⟨g1,g2⟩:=hrep.a68 hk;exact⟨E,g1,htr.mono (w':=w) (λ_ _ _=>rfl) g2 (Env.le_refl _)⟩
 |give k=>
  simp only[an1]at hp;split at hp
  case h_2=>cases hp
  rename_i so hk;cases hp;obtain⟨g1,g2⟩:=aY2 hrep hk;exact⟨E,g1,htr.mono (w':=w) (λ_ _ _=>rfl) g2 (Env.le_refl _)⟩
theorem be9{w0 X0 N}{s s1 s2:St}{t len:Nat}(hp:bN3 N s t=some (len,s1,s2)){a:Act}{w:World}(h:StR w0 X0 N s a w):(len=0/\StR w0 X0 N s1 a w)\/StR w0 X0 N s2 a w:=by
 obtain⟨E,hrep,htr⟩:=h;simp only[bN3]at hp;split at hp
 case h_2=>cases hp
 rename_i hb;have ht:t<N:=lN hb;split at hp
 case h_2=>cases hp
 rename_i len' n g hl;cases hp;have hR:=htr.2.2 t ht;rw[hl]at hR;have put:∀{sv:SV},R w (Xo X0 E s.H) E sv (a.tmps.getD t undef)->TR (X0.n0 w0) w (Xo X0 E s.H) E N ((t,sv)::s.τ) a:=by
  intro sv hv;refine⟨htr.1,htr.2.1,λu hu=>?_⟩;simp only[ac5];split
  ·rename_i hc;subst hc;exact hv
  ·exact htr.2.2 u hu
 generalize hvv:a.tmps.getD t undef=v at hR;rw[hvv]at put;obtain⟨ad,cap,rfl⟩:=aH6 hR;cases ad with
 |some ad=>exact .inr ⟨E,hrep,put (.slN hR)⟩
 |none=>
  cases hR;exact .inl ⟨rfl,E,hrep,put .nilsl⟩
theorem al6{w0 X0 N m}(hnm:∀k,X0.nm k≠none->k<m){a:Act}{w:World}:∀{l:List PrepA}{s s':St},as5 m N s l=some s'->StR w0 X0 N s a w->StR w0 X0 N s' a w
 | [],s,s',h,hs=>by simp only[as5,sk]at h;subst h;exact hs
 |p::r,s,s',h,hs=>by
  simp only[as5]at h;split at h
  ·exact al6 hnm h (bi4 hnm (by assumption) hs)
  ·cases h
open Go.RowKit
def guards(ops:Array Oper)(i:Nat):Bool:=ops.toList.any λo=>match o.guard with
 |some (j,_)=>j==i
 |none=>false
def Br(b:Bool)(p q:Prop):Prop:=match b with
 |true=>p
 |false=>q
theorem Br.of{b p q}(h:Br b p q):(b=true->p)/\(b=false->q):=by
 cases b with
 |true=>exact⟨λ_=>h,λh'=>by cases h'⟩
 |false=>exact⟨λh'=>(by cases h'),λ_=>h⟩
theorem b79{b p q}:Br b p q<->(b=true->p)/\(b=false->q):=by
 refine⟨Br.of,λh=>?_⟩;cases b with
 |true=>exact h.1 rfl
 |false=>exact h.2 rfl
theorem cln:(∀{p:Prop},Aq p<->p)/\(∀{b p q},Br b p q<->(b=true->p)/\(b=false->q))/\(∀{α:Type}(a:α),(a=a)=True)/\(∀p:Prop,(True/\p)=p)/\(∀p:Prop,(p/\True)=p)/\(∀α:Type,(α->True)=True)/\(∀p:Prop,(p->True)=True)/\(∀{p:Prop}(α:Type) [Nonempty α],(∀_:α,p)=p)/\(∀{p:Prop}[Decidable p],(decide p=true)=p)/\(∀{p:Prop}{_:Decidable p},(decide p=false)<->¬p)/\(∀{α:Type}(a b:α),(a≠b)=¬(a=b))/\(∀n:Nat,n*1=n)/\(∀n:Nat,n+0=n)/\(∀n:Nat,0+n=n):=
 ⟨bS7,b79,eq_self,lar,laf,λα=>implies_true α,λα=>implies_true α,λα h=>propext (forall_const α),lE,xW,ne_eq,ux,lV,lI⟩
def chp(e:Prop)(p:Nat->Prop):Nat->Prop
 |0=>e
 |n+1=>chp e p n/\p n
def vcDo(P:Program)(specs:List FSpec)(eqs:List (TypeId×List CK))(N:Nat)(ops:Array Oper)(o:Oper)(i:Nat)(K:St->Prop)(s:St):Prop:=
 match evOp P specs eqs N s.τ s.H s.H.length o with
 |some y=>y.ask/\aJ7 (ax6 s.H y.eff) λH=>force y.val λv=>match v with
  |.bool b=>match guards ops i with
   |true=>Br b (K ⟨putT o.dst (.lit true) s.τ,H⟩) (K ⟨putT o.dst (.lit false) s.τ,H⟩)
   |false=>K ⟨putT o.dst (.bool b) s.τ,H⟩
  |v=>K ⟨putT o.dst v s.τ,H⟩
 |none=>False
def bE5(o:Oper)(K:St->Prop)(s:St):Prop:=K ⟨putT o.dst aN6 s.τ,s.H⟩
def aK5(P:Program)(specs:List FSpec)(eqs:List (TypeId×List CK))(N:Nat)(ops:Array Oper):List Oper->Nat->(St->Prop)->St->Prop
 | [],_,K,s=>K s
 |o::r,i,K,s=>match o.guard with
  |none=>vcDo P specs eqs N ops o i (aK5 P specs eqs N ops r (i+1) K) s
  |some (j,want)=>match gsv N ops s.τ j with
   |.lit b=>match b==want with
    |true=>vcDo P specs eqs N ops o i (aK5 P specs eqs N ops r (i+1) K) s
    |false=>bE5 o (aK5 P specs eqs N ops r (i+1) K) s
   |.tup ..=>bE5 o (aK5 P specs eqs N ops r (i+1) K) s
   |_=>False
theorem b66{w X E b c u}(h:b=c)(hr:R w X E (.bool b) u):R w X E (.lit c) u:=by
 subst h;rw[aN0 hr];exact .lit
theorem bF0{P specs eqs N ops o i K s}(hw:Want N ops s.τ o true)(h:vcDo P specs eqs N ops o i K s):∃s',Step P specs eqs N ops o s s'/\K s':=by
 unfold vcDo at h;cases hy:evOp P specs eqs N s.τ s.H s.H.length o with
 |none=>rw[hy]at h;exact h.elim
 |some y=>
  rw[hy]at h;simp only[force_eq,am9]at h;obtain⟨ha,h⟩:=h;have plain:∀v,y.val=v->K ⟨putT o.dst v s.τ,ax6 s.H y.eff⟩->∃s',Step P specs eqs N ops o s s'/\K s':=by
   rintro v rfl hk;exact⟨_,.run hw hy ha (λ_ _ _ _ hr=>hr) (λ_ _ h=>h) (λ_ _ h=>h) (λ_ _ _ h=>h),hk⟩
  split at h
  ·rename_i b hb;split at h
   ·cases hbb:b with
    |true=>exact⟨_,.run (v:= .lit true) hw hy ha (λw X E u hr=>b66 hbb (hb▸hr)) (λ_ _ h=>by rw[hb]at h;cases h) (λ_ _ h=>by rw[hb]at h;cases h) (λ_ _ _ h=>by rw[hb]at h;cases h),h.of.1 hbb⟩
    |false=>exact⟨_,.run (v:= .lit false) hw hy ha (λw X E u hr=>b66 hbb (hb▸hr)) (λ_ _ h=>by rw[hb]at h;cases h) (λ_ _ h=>by rw[hb]at h;cases h) (λ_ _ _ h=>by rw[hb]at h;cases h),h.of.2 hbb⟩
   ·exact plain _ hb h
  ·exact plain _ rfl h
theorem av8{P specs eqs N ops}:∀{l:List Oper}{i:Nat}{s:St}{K:St->Prop},aK5 P specs eqs N ops l i K s->∃s',Tr P specs eqs N ops l s s'/\K s'
 | [],_,s,K,h=>⟨s,.nil,h⟩
 |o::r,i,s,K,h=>by
  have go:Want N ops s.τ o true->vcDo P specs eqs N ops o i (aK5 P specs eqs N ops r (i+1) K) s->∃s',Tr P specs eqs N ops (o::r) s s'/\K s':=by
   intro hw h;obtain⟨s1,h1,h2⟩:=bF0 hw h;obtain⟨s',h3,h4⟩:=av8 h2;exact⟨s',.cons h1 h3,h4⟩
  have skip:Want N ops s.τ o false->bE5 o (aK5 P specs eqs N ops r (i+1) K) s->∃s',Tr P specs eqs N ops (o::r) s s'/\K s':=by
   intro hw h;obtain⟨s',h1,h2⟩:=av8 h;exact⟨s',.cons (.skip hw) h1,h2⟩
  simp only[aK5]at h;cases hg:o.guard with
  |none=>
   rw[hg]at h;exact go (by unfold Want;rw[hg]) h
  |some jw=>
   obtain⟨j,want⟩:=jw;rw[hg]at h;simp only at h
   split at h
   ·rename_i b hb;split at h
    ·rename_i hbw;exact go (by unfold Want;rw[hg];exact .inl ⟨b,by rw[hb];rfl,hbw.symm⟩) h
    ·rename_i hbw;exact skip (by unfold Want;rw[hg];exact .inl ⟨b,by rw[hb];rfl,hbw.symm⟩) h
   ·rename_i n g hb;exact skip (by unfold Want;rw[hg];exact .inr ⟨n,g,hb,rfl⟩) h
   ·exact h.elim
inductive SExit:Type
 |normal
 |exit (id:Nat)
 |ret
def SExit.lift:SExit->Exit
 |.normal=> .normal
 |.exit id=> .exit id
 |.ret=> .ret
abbrev SK:=SExit->St->Prop
def by7(k:St->Prop)(K:SK):SK
 |.normal,s=>k s
 |e,s=>K e s
def b81(id:Nat)(K:SK):SK
 |.exit i,s=>if i=id then K .normal s else K (.exit i) s
 |e,s=>K e s
structure NSpec:Type where
 f:FuncId
 run:List SV->Option (Prop×(Nat->SV)×(Nat->List SO))
def bE0(w0:World)(X0:Fr)(H:List SO)(E:Env)(w:World)(new:List SO)(sv:SV)(v:Value)(w':World):Prop:=
 ∃E':Env,E.le E'/\aA1 (Xo X0 E H) w w'/\ab7 (Xo X0 E H) (Xo X0 E' (H++new)) w/\Rep w0 X0 (H++new) E' w'/\R w' (Xo X0 E' (H++new)) E' sv v/\∀k<H.length,E' k=E k
structure NewsOK(P:Program)(ns:NSpec):Prop where
 ent:∀args w,(callFunc ns.f args).run P w=.ok (.enter ns.f args) w
 ok:∀(l:List SV)(p:Prop)(res:Nat->SV)(new:Nat->List SO),ns.run l=some (p,res,new)->p->∀(w0:World)(X0:Fr)(H:List SO)(E:Env)(w:World),Rep w0 X0 H E w->∀(vals:Array Value),ax8 w (Xo X0 E H) E l vals->
  Calls P ns.f vals w λe w'=>∃v,e=.returned v/\bE0 w0 X0 H E w (new H.length) (res H.length) v w'
structure ISpec:Type where
 f:FuncId
 run:List SV->Option (Prop×Nat×(Nat->List SV))
structure ItOK(P:Program)(is:ISpec):Prop where
 ent:∀args w,(callFunc is.f args).run P w=.ok (.enter is.f args) w
 ok:∀(l:List SV)(p:Prop)(cnt:Nat)(its:Nat->List SV),is.run l=some (p,cnt,its)->p->∀(w:World)(X:Nat->Prop)(vals:Array Value),ax8 w X E0 l vals->
  ∀(lp:Nat)(J:Nat->(Nat->Prop)->World->Prop)(Jx:Nat->World->Prop),
   (∀i B W W',J i B W->Below W.heap.size W W'->J i (λb=>B b\/(W.heap.size<=b/\b<W'.heap.size)) W')->(∀i W W',Jx i W->Below W.heap.size W W'->Jx i W')->
   (∀i B W,J i B W->(w.heap.size<=W.heap.size/\∀b<w.heap.size,¬ X b->W.heap[b]?=w.heap[b]?)/\∀b,B b->b<W.heap.size)->
   (∀i B W args,i<cnt->J i B W->ax8 W (λb=>¬ B b/\(w.heap.size<=b\/X b)) E0 (its i) args->
    YieldAt Fence.wide 0 P lp args W λe W'=>(e=.returned (.bool true)/\J (i+1) B W'/\∀b,B b->W'.heap[b]?=W.heap[b]?)\/(e=.returned (.bool false)/\Jx i W'))->
   ∀W,J 0 (λ_=>False) W->Calls P is.f (#[.func (.yield lp) #[] #[]]++vals) W λe W'=>(∃v,e=.returned v)/\((∃B,J cnt B W')\/∃i,i<cnt/\Jx i W')
structure Inv:Type 1 where
 γ:Type
 pre:γ->Prop
 st:γ->St
 meas:γ->Nat
inductive LoopA:Type 1
 |inv (I:Inv)
 |rounds (n:Nat)
 |cut (I:Inv)
 |nest (I:Inv) (sub:I.γ->List (Nat×LoopA))
 |steps (n:Nat) (I:Nat->St) (sub:Nat->List (Nat×LoopA))
 |news (q:Nat) (s:NSpec)
 |newsD (al:List Nat) (q:Nat) (s:NSpec)
 |order (l:List Nat)
 |hand (I:Inv) (Js:List Inv)
structure Ann:Type 1 where
 loops:List (Nat×LoopA)
 preps:List (Nat×List PrepA)
def bg9:List (Nat×LoopA)->Nat->Option LoopA
 | [],_=>none
 |(k,x)::r,i=>match x with
  |.cut _=>bg9 r i
  |x=>if k=i then some x else bg9 r i
def cg7:List (Nat×LoopA)->Nat->Option Inv
 | [],_=>none
 |(k,x)::r,i=>match x with
  |.cut I=>if k=i then some I else cg7 r i
  |_=>cg7 r i
def aU5:List (Nat×List PrepA)->Nat->List PrepA
 | [],_=>[]
 |(k,x)::r,i=>if k=i then x else aU5 r i
def ao0:Code->Option Nat
 |.region id _ _=>some id
 |.seq a b=>match ao0 a with
  |some i=>some i
  |none=>ao0 b
 |.cond _ a b=>match ao0 a with
  |some i=>some i
  |none=>ao0 b
 |.block _ c=>ao0 c
 |.loop c=>ao0 c
 |_=>none
def rounds(f:SK->St->Prop)(K:SK):Nat->St->Prop
 |0,_=>False
 |n+1,s=>f (by7 (rounds f K n) K) s
def b32(W:Nat->St->Prop)(f:Nat->SK->Prop)(K:SK):Nat->Nat->St->Prop
 |0,_,_=>False
 |n+1,k,s=>W k s/\f k (by7 (b32 W f K n (k+1)) K)
def vcGo(P:Program)(specs:List FSpec)(eqs:List (TypeId×List CK))(N:Nat)(ops:Array Oper)(d:Bool)(k:St->Prop)(s:St):Prop:=
 match d with
 |true=>aK5 P specs eqs N ops ops.toList 0 (λs'=>match regB P (effS specs) s.H.length N s.τ s'.τ ops with
  |true=>k s'
  |false=>False) s
 |false=>aK5 P specs eqs N ops ops.toList 0 k s
def aH7(m N:Nat)(k:St->Prop)(s:St):List PrepA->Prop
 | []=>k s
 |p::r=>match as5 m N s (p::r)with
  |some s'=>k s'
  |none=>False
def bE9(P:Program)(specs:List FSpec)(eqs:List (TypeId×List CK))(N:Nat)(ops:Array Oper)(q:Nat)(ns:NSpec)(k:St->Prop)(s:St):Prop:=
 aK5 P specs eqs N ops (ops.toList.take q) 0 (λs1=>match ops[q]? with
  |some o=>match o.guard with
   |some _=>False
   |none=>match o.op with
    |.call c=>match c.callee with
     |.value x=>match evO N s1.τ x with
      |.fn F n g=>match Nat.beq ns.f F with
       |true=>match ns.run (mapArgs N s1.τ c.args++(List.range n).map g)with
        |some r=>NewsOK P ns/\r.1/\aK5 P specs eqs N ops (ops.toList.drop (q+1)) 0 k ⟨putT o.dst (r.2.1 s1.H.length) s1.τ,s1.H++r.2.2 s1.H.length⟩
        |none=>False
       |false=>False
      |_=>False
     |_=>False
    |_=>False
  |none=>False) s
def allI(p:Nat->Prop):List Nat->Prop
 | []=>True
 |i::r=>p i/\allI p r
theorem bx2{p:Nat->Prop}:∀{l:List Nat},allI p l->∀i∈l,p i
 |j::r,h,i,hi=>by
  rcases xe.1 hi with rfl|hi
  ·exact h.1
  ·exact bx2 h.2 i hi
def b72:SO->Bool
 |.dead=>true
 |_=>false
def bE7(P:Program)(specs:List FSpec)(eqs:List (TypeId×List CK))(N:Nat)(ops:Array Oper)(base:Nat)(al:List Nat)(q:Nat)(ns:NSpec)(i:Nat)(k:St->Prop)(s:St):Prop:=
 match ops[i]? with
 |none=>False
 |some o=>match o.guard with
  |some _=>False
  |none=>match Nat.beq i q with
   |true=>match o.op with
    |.call c=>match c.callee with
     |.value x=>match evO N s.τ x with
      |.fn F n g=>match Nat.beq ns.f F with
       |true=>match ns.run (mapArgs N s.τ c.args++(List.range n).map g)with
        |some r=>match Nat.ble (base+al.length) s.H.length with
         |true=>r.1/\k ⟨putT o.dst (r.2.1 s.H.length) s.τ,s.H++r.2.2 s.H.length⟩
         |false=>False
        |none=>False
       |false=>False
      |_=>False
     |_=>False
    |_=>False
   |false=>match evOp P specs eqs N s.τ s.H (base+al.idxOf i) o with
    |some y=>match y.eff with
     |.keep=>y.ask/\force y.val λv=>k ⟨putT o.dst v s.τ,s.H⟩
     |.new so=>match b72 (s.H.getD (base+al.idxOf i) .dead)&&((al.any λj=>Nat.beq j i)&&Nat.blt (base+al.idxOf i) s.H.length)with
      |true=>y.ask/\aJ7 (s.H.set (base+al.idxOf i) so) λH=>force y.val λv=>k ⟨putT o.dst v s.τ,H⟩
      |false=>False
     |.sets l=>y.ask/\aJ7 (ad5 s.H l) λH=>force y.val λv=>k ⟨putT o.dst v s.τ,H⟩
    |none=>False
def bF1(P:Program)(specs:List FSpec)(eqs:List (TypeId×List CK))(N:Nat)(ops:Array Oper)(base:Nat)(al:List Nat)(q:Nat)(ns:NSpec)(k:St->Prop):Nat->Array Bool->St->Prop
 |0,listed,s=>match Region.ready .any ops listed with
  | []=>k s
  |_=>False
 |f+1,listed,s=>match Region.ready .any ops listed with
  | []=>k s
  |l=>allI (λi=>bE7 P specs eqs N ops base al q ns i (bF1 P specs eqs N ops base al q ns k f (listed.setIfInBounds i true)) s) l
def bE8(P:Program)(specs:List FSpec)(eqs:List (TypeId×List CK))(N:Nat)(ops:Array Oper)(al:List Nat)(q:Nat)(ns:NSpec)(k:St->Prop)(s:St):Prop:=
 NewsOK P ns/\bF1 P specs eqs N ops s.H.length al q ns k ops.size (Array.replicate ops.size false) ⟨s.τ,s.H++al.map λ_=> .dead⟩
def opsOf(A:Ann)(id:Nat)(ops:Array Oper)(d:Bool):Array Oper:=match d with
 |false=>ops
 |true=>match bg9 A.loops (4000000+id)with
  |some (.order l)=>match cd2 l ops with
   |true=>ah2 l ops
   |false=>ops
  |_=>ops
def br0(P:Program)(specs:List FSpec)(eqs:List (TypeId×List CK))(N m:Nat)(A:Ann)(id:Nat)(ops:Array Oper)(d:Bool)(k:St->Prop)(s:St):Prop:=
 match bg9 A.loops (3000000+id)with
 |some (.news q ns)=>match d with
  |true=>False
  |false=>bE9 P specs eqs N ops q ns (λs=>aH7 m N k s (aU5 A.preps (1000000+id))) s
 |some (.newsD al q ns)=>match d with
  |true=>bE8 P specs eqs N ops al q ns (λs=>aH7 m N k s (aU5 A.preps (1000000+id))) s
  |false=>False
 |_=>
 match aU5 A.preps id with
 |.nilc t::r=>match bN3 N s t with
  |some q=>(q.1=0->match as5 m N q.2.1 r with
   |some s'=>vcGo P specs eqs N (opsOf A id ops d) d (λs=>aH7 m N k s (aU5 A.preps (1000000+id))) s'
   |none=>False)/\match as5 m N q.2.2 r with
   |some s'=>vcGo P specs eqs N (opsOf A id ops d) d (λs=>aH7 m N k s (aU5 A.preps (1000000+id))) s'
   |none=>False
  |none=>False
 |l=>match as5 m N s l with
  |some s'=>vcGo P specs eqs N (opsOf A id ops d) d (λs=>aH7 m N k s (aU5 A.preps (1000000+id))) s'
  |none=>False
def meets(m:Nat)(I:Inv)(s:St):Prop:=∃g,Aq (I.pre g)/\as9 m s.H (I.st g).H (StLe s (I.st g))
def bx9(N m:Nat)(I:Inv)(Js:List Inv):Prop:=
 ∀g,I.pre g->∀(w0:World)(X0:Fr)(a:Act)(w:World),(∀k,X0.nm k≠none->k<m)->StR w0 X0 N (I.st g) a w->∃J∈Js,∃h,J.pre h/\StR w0 X0 N (J.st h) a w
def allJ(k:St->Prop):List Inv->Prop
 | []=>True
 |J::r=>(∀h,J.pre h->k (J.st h))/\allJ k r
theorem ba9{k:St->Prop}:∀{Js:List Inv},allJ k Js->∀J∈Js,∀h,J.pre h->k (J.st h)
 | [],_,J,hJ,_,_=>absurd hJ xi
 |J0::r,h,J,hJ,g,hg=>by
  rcases xe.1 hJ with rfl|hJ
  ·exact h.1 g hg
  ·exact ba9 h.2 J hJ g hg
def aH8(N m:Nat)(A:Ann)(id:Nat)(k:St->Prop):St->Prop:=
 match bg9 A.loops (6000000+id)with
 |some (.hand I Js)=>λs=>bx9 N m I Js/\meets m I s/\allJ k Js
 |_=>k
theorem by3{N m:Nat}{A:Ann}{id:Nat}{k:St->Prop}{s:St}(h:aH8 N m A id k s){w0:World}{X0:Fr}{a:Act}{w:World}(hnm:∀k,X0.nm k≠none->k<m)(hs:StR w0 X0 N s a w)
  (hmeets:∀{I:Inv}{s:St},meets m I s->StR w0 X0 N s a w->∃g,I.pre g/\StR w0 X0 N (I.st g) a w):∃s',k s'/\StR w0 X0 N s' a w:=by
 unfold aH8 at h;cases hf:bg9 A.loops (6000000+id)with
 |none=>rw[hf]at h;exact⟨s,h,hs⟩
 |some x=>
  rw[hf]at h;cases x with
  |hand I Js=>
   obtain⟨hok,hmeet,hall⟩:=h;obtain⟨g,hg,hs2⟩:=hmeets hmeet hs;obtain⟨J,hJ,j,hj,hs3⟩:=hok g hg w0 X0 a w hnm hs2;exact⟨_,ba9 hall J hJ j hj,hs3⟩
  |_=>exact⟨s,h,hs⟩
def ck2(P:Program)(specs:List FSpec)(eqs:List (TypeId×List CK))(N m:Nat)(A:Ann)(id:Nat)(ops:Array Oper)(d:Bool)(k:St->Prop)(s:St):Prop:=
 match bg9 A.loops (5000000+id)with
 |some (.hand I Js)=>bx9 N m I Js/\meets m I s/\allJ (br0 P specs eqs N m A id ops d (aH8 N m A id k)) Js
 |_=>br0 P specs eqs N m A id ops d (aH8 N m A id k) s
def cutOf(A:Ann)(b:Code):Option Inv:=match ao0 b with
 |some i=>cg7 A.loops i
 |none=>none
def vc(P:Program)(specs:List FSpec)(eqs:List (TypeId×List CK))(N m:Nat)(r:Bool):Ann->Code->SK->St->Prop
 |_,.skip,K,s=>K .normal s
 |_,.label _,K,s=>K .normal s
 |A,.region id ops d,K,s=>ck2 P specs eqs N m A id ops d (K .normal) s
 |A,.seq a b,K,s=>match cutOf A b with
  |none=>vc P specs eqs N m r A a (by7 (vc P specs eqs N m r A b K) K) s
  |some I=>vc P specs eqs N m r A a (by7 (meets m I) K) s/\∀g,I.pre g->vc P specs eqs N m r A b K (I.st g)
 |A,.cond c x y,K,s=>match evO N s.τ c with
  |.bool b=>Br b (vc P specs eqs N m r A x K s) (vc P specs eqs N m r A y K s)
  |.lit b=>match b with
   |true=>vc P specs eqs N m r A x K s
   |false=>vc P specs eqs N m r A y K s
  |_=>False
 |A,.block id c,K,s=>vc P specs eqs N m r A c (b81 id K) s
 |A,.loop c,K,s=>match ao0 c with
  |some i=>match bg9 A.loops i with
   |some (.inv I)=>(∃g,Aq (I.pre g)/\as9 m s.H (I.st g).H (StLe s (I.st g)))/\∀g,I.pre g->vc P specs eqs N m r A c (by7 (λs'=>∃g',Aq (I.pre g')/\as9 m s'.H (I.st g').H (StLe s' (I.st g')/\Aq (I.meas g'<I.meas g))) K) (I.st g)
   |some (.nest I sub)=>(∃g,Aq (I.pre g)/\as9 m s.H (I.st g).H (StLe s (I.st g)))/\∀g,I.pre g->vc P specs eqs N m r ⟨sub g++A.loops,A.preps⟩ c (by7 (λs'=>∃g',Aq (I.pre g')/\as9 m s'.H (I.st g').H (StLe s' (I.st g')/\Aq (I.meas g'<I.meas g))) K) (I.st g)
   |some (.rounds n)=>rounds (vc P specs eqs N m r A c) K n s
   |some (.steps n I sub)=>b32 (λk s=>as9 m s.H (I k).H (StLe s (I k))) (λk K=>vc P specs eqs N m r ⟨sub k++A.loops,A.preps⟩ c K (I k)) K n 0 s
   |_=>False
  |none=>False
 |_,.exit id,K,s=>K (.exit id) s
 |_,.ret,K,s=>K .ret s
 |_,_,_,_=>False
def al7(_:Option FuncId->Bool)(_:Code):Bool:=true
def aA2(w w':World):Prop:=∀(b:Nat)(o:Obj),w.heap[b]?=some o->(∀ds,o≠Obj.deferred ds)->(∀r,o≠Obj.loop r)->w'.heap[b]?=some o
theorem aA2.cells{w w':World}(h:aA2 w w'){b:Nat}{c:Array Value}{T:TypeId}{fr:Nat×Nat}(hb:w.heap[b]?=some (.cells c T fr)):w'.heap[b]?=some (.cells c T fr):=h b _ hb (λ_ hc=>by cases hc) (λ_ hc=>by cases hc)
theorem aA2.refl(w:World):aA2 w w:=λ_ _ h _ _=>h
theorem aA2.trans{a b c:World}(h:aA2 a b)(k:aA2 b c):aA2 a c:=λi o hi h1 h2=>k i o (h i o hi h1 h2) h1 h2
theorem aA2.putObj{w:World}{D:Nat}{o o':Obj}(hb:w.heap[D]?=some o)(ho:(∃ds,o=.deferred ds)\/∃r,o=.loop r):aA2 w (w.putObj D o'):=by
 intro b x hx h1 h2;have hne:b≠D:=λhc=>by
  subst hc;rw[hb]at hx;cases hx;rcases ho with⟨ds,rfl⟩|⟨r,rfl⟩
  ·exact h1 ds rfl
  ·exact h2 r rfl
 exact(World.putObj_heap_other hne).trans hx
theorem R.turn{w w':World}(hk:aA2 w w'){X:Nat->Prop}{E:Env}{sv:SV}{v:Value}(h:R w X E sv v):R w' X E sv v:=by
 induction h with
 |any=>exact .any
 |int=>exact .int
 |bool=>exact .bool
 |lit=>exact .lit
 |str=>exact .str
 |nilfn=>exact .nilfn
 |cap0=>exact .cap0
 |fn hs _ ih=>exact .fn hs ih
 |fnb hs _ ih=>exact .fnb hs ih
 |agg hs ho _ ih=>exact .agg hs ho ih
 |tup hs _ ih=>exact .tup hs ih
 |sl0=>exact .sl0
 |sl hb hX hc hl ho _ ih=>exact .sl (hk.cells hb) hX hc hl ho ih
 |ref hb hX hc ho _ ih=>exact .ref (hk.cells hb) hX hc ho ih
 |own h=>exact .own h
 |osl h hv=>exact .osl h hv
 |oslOld h hl hv=>exact .oslOld h hl hv
 |ownAt h=>exact .ownAt h
 |ownAtOld h hl hv=>exact .ownAtOld h hl hv
 |win h hl ha h0=>exact .win h hl ha h0
 |nilsl=>exact .nilsl
 |con=>exact .con
 |pin h=>exact .pin h
 |part h hl=>exact .part h hl
 |partOld h hl hv=>exact .partOld h hl hv
 |slP hb hX hc hl ho _ ih=>exact .slP (hk.cells hb) hX hc hl ho ih
 |refP hb hX hc ho _ ih=>exact .refP (hk.cells hb) hX hc ho ih
 |ifc ho _ ih=>exact .ifc ho ih
 |omap h=>exact .omap h
 |omapOld h hl=>exact .omapOld h hl
 |slN _ ih=>exact .slN ih
 |winOld h hl hv=>exact .winOld h hl hv
theorem ah4.turn{w w':World}(hk:aA2 w w'){T n v len xs}(h:ah4 w T n v len xs):ah4 w' T n v len xs:=by
 rcases h with h|⟨b,oo,cap,cur,rfl,h1,h2⟩
 ·exact .inl h
 ·exact .inr ⟨b,oo,cap,cur,rfl,hk.cells h1,h2⟩
theorem EIok.turn{w w':World}(hk:aA2 w w'){X:Nat->Prop}{E:Env}{e:EI}{so:SO}(h:EIok w X E e so):EIok w' X E e so:=by
 cases so with
 |dead=>cases e<;>trivial
 |cells n g T=>
  cases e with
  |slc=>exact h
  |blk b=>
   obtain⟨vs,h1,h2,h3⟩:=h;exact⟨vs,hk.cells h1,h2,λi hi=>⟨(h3 i hi).1,(h3 i hi).2.turn hk⟩⟩
 |scells n g=>
  cases e with
  |slc=>exact h
  |blk b=>
   obtain⟨vs,T,fr,h1,h2,h3,h4⟩:=h;exact⟨vs,T,fr,hk.cells h1,h2,h3,λi hi=>⟨(h4 i hi).1,(h4 i hi).2.turn hk⟩⟩
 |row ver len n g T=>
  cases e with
  |blk=>exact h
  |slc ver' v=>
   obtain⟨h1,xs,h2,h3⟩:=h;exact⟨h1,xs,h2.turn hk,λi j hi hj=>⟨(h3 i j hi hj).1,(h3 i j hi hj).2.turn hk⟩⟩
 |srow ver len n g=>
  cases e with
  |blk=>exact h
  |slc ver' v=>exact⟨h.1,h.2.turn hk⟩
 |deep ver len n c m p g T T' ho=>
  cases e with
  |blk=>exact h
  |slc ver' v us=>
   obtain⟨h1,xs,d⟩:=h;refine⟨h1,xs,d.pos,d.own.turn hk,λi j hi h0 hj=>⟨(d.rest i j hi h0 hj).1,(d.rest i j hi h0 hj).2.turn hk⟩,λi sv hi hh=>⟨(d.out i sv hi hh).1,(d.out i sv hi hh).2.turn hk⟩,λi hi hh=>?_,d.apart,d.inj⟩;obtain⟨g1,ys,g2,g3⟩:=d.inn i hi hh;exact⟨g1,ys,g2.turn hk,λi' j hi' hj=>⟨(g3 i' j hi' hj).1,(g3 i' j hi' hj).2.turn hk⟩⟩
 |mpi kk tot has val=>
  cases e with
  |blk=>exact h
  |slc ver' v us=>
   obtain⟨h1,b,es,clock,rfl,h2,h3,h4,h5⟩:=h;exact⟨h1,b,es,clock,rfl,hk b _ h2 (λ_ hc=>by cases hc) (λ_ hc=>by cases hc),h3,λl e hl he hk'=>(h4 l e hl he hk').turn hk,λht l hl hh=>(h5 ht l hl hh).turn hk⟩
 |mps kd has c m p T' ho=>
  cases e with
  |blk=>exact h
  |slc ver' v us=>
   obtain⟨h1,b,es,clock,rfl,h2,d⟩:=h;refine⟨h1,b,es,clock,rfl,hk b _ h2 (λ_ hc=>by cases hc) (λ_ hc=>by cases hc),d.map,λy e he hk' hh=>?_,d.gone,λhy sv fl hho=>?_,d.inj⟩
   ·obtain⟨g1,ys,g2,g3⟩:=d.inn y e he hk' hh;exact⟨g1,ys,g2.turn hk,λi' j hi' hj=>⟨(g3 i' j hi' hj).1,(g3 i' j hi' hj).2.turn hk⟩⟩
   ·obtain⟨g1,g2,g3⟩:=d.out hy sv fl hho;exact⟨g1,λe he hk'=>(g2 e he hk').turn hk,λhz=>(g3 hz).turn hk⟩
 |cus Q=>
  cases e with
  |slc=>exact h
  |blk=>exact Q.mono (λb c T fr hc _=>hk.cells hc) (λ_ _ hb=>hb) h
theorem Bel.turn{D:Nat->Prop}{w0 w:World}(h:Bel D w0 w){b:Nat}(hb:w0.heap.size<=b)(o:Obj):Bel D w0 (w.putObj b o):=
 ⟨h.os,h.tape,h.output,by rw[World.putObj_size];exact h.size,λk hk hd=>(World.putObj_heap_other (by omega)).trans (h.block k hk hd)⟩
theorem Rep.turn{w0 X0 H E w}(h:Rep w0 X0 H E w){b:Nat}{o o':Obj}(hb:w0.heap.size<=b)(ho:w.heap[b]?=some o)(hd:(∃ds,o=.deferred ds)\/∃r,o=.loop r):Rep w0 X0 H E (w.putObj b o'):=
 ⟨h.below.turn hb o',h.x0,h.nm,h.dom,λk e he=>(h.ok k e he).turn (aA2.putObj ho hd),h.low,h.inj⟩
section
variable {P:Program}{w0:World}{X0:Fr}{specs:List FSpec}{eqs:List (TypeId×List CK)}{N m:Nat}
def cu5(w0:World)(X0:Fr)(N:Nat)(K:SK)(Q:Exit->Act->World->Prop):Prop:=∀e s a w,K e s->StR w0 X0 N s a w->Q e.lift a w
theorem az5{I:Inv}{s:St}(hnm:∀k,X0.nm k≠none->k<m)(h:meets m I s){a:Act}{w:World}(hs:StR w0 X0 N s a w):∃g,I.pre g/\StR w0 X0 N (I.st g) a w:=by
 obtain⟨g,⟨hp⟩,hl⟩:=h;exact⟨g,hp,hs.le hnm hl.get.1 hl.get.2⟩
def FrOK(r:Bool)(F:Fence):Prop:=F=Fence.wide\/(r=true/\∃l,F=Fence.wide.inRound l)
theorem FrOK.wd{r:Bool}{F:Fence}(h:FrOK r F):Wd F:=h.elim .inl λh=> .inr h.2
theorem ck6{w0:World}{X0:Fr}(hspecs:∀s∈specs,ah9 P w0 X0 s)(heqs:∀t n,(t,n)∈eqs->EqOK P t n){ops:Array Oper}{F:Fence}{nn:Nat}(hF:Wd F){Q:Exit->Act->World->Prop}{l2:List Oper}:
  ∀{l:List Oper}{s s':St},Tr P specs eqs N ops l s s'->(∀a w,StR w0 X0 N s' a w->wpListIn F nn P ops Q l2 a w)->∀a w,StR w0 X0 N s a w->wpListIn F nn P ops Q (l++l2) a w:=by
 intro l s s' ht hq;induction ht with
 |nil=>exactλa w h=>hq a w h
 |cons hs _ ih=>
  intro a w h;obtain⟨E,hrep,htr⟩:=id h;simp only[wpListIn,uP];cases hs with
  |run hw hy hask hv hv2 hv3 hv4=>
   rw[ll (hw.wanted htr)];exact bd4 hspecs heqs h hy hask hv F nn hF _ _ λv w' hg=>ih hq _ _ hg
  |skip hw=>
   rw[lu (by rw[hw.wanted htr];simp)];exact⟨λf _=>hF.fn f,ih hq _ _ (aW7 h _)⟩
theorem bB2{w0:World}{X0:Fr}(hspecs:∀s∈specs,ah9 P w0 X0 s)(heqs:∀t n,(t,n)∈eqs->EqOK P t n){ops:Array Oper}{F:Fence}{nn:Nat}(hF:Wd F){Q:Exit->Act->World->Prop}{q:Nat}{ns:NSpec}{K:St->Prop}{s:St}
  (h:bE9 P specs eqs N ops q ns K s) {id:Nat}{a:Act}{w:World}(hs:StR w0 X0 N s a w) (hq:∀s' a' w',K s'->StR w0 X0 N s' a' w'->Q .normal a' w'):(Code.region id ops false).wpIn F nn P Q a w:=by
 unfold bE9 at h;obtain⟨s1,ht,hk⟩:=av8 h;split at hk
 case h_2=>exact hk.elim
 rename_i o hoq;split at hk
 ·exact hk.elim
 rename_i hgd;split at hk
 case h_2=>exact hk.elim
 rename_i c hop;split at hk
 case h_2=>exact hk.elim
 rename_i x hcal;split at hk
 case h_2=>exact hk.elim
 rename_i G n g hev;split at hk
 case h_2=>exact hk.elim
 rename_i hbeq;split at hk
 case h_2=>exact hk.elim
 rename_i r hrun;obtain⟨hN,hp,hrest⟩:=hk;obtain⟨s',ht2,hK⟩:=av8 hrest;have hql:q<ops.size:=(li.1 hoq).1;have hdrop:ops.toList.drop q=o::ops.toList.drop (q+1):=by
  rw[List.drop_eq_getElem_cons (by rw[lC];exact hql),Array.getElem_toList];congr 1;exact(li.1 hoq).2
 have hall:=ck6 hspecs heqs hF (nn:=nn) (Q:=Q) (l2:=ops.toList.drop q) ht (λa1 w1 hs1=>by
  rw[hdrop];obtain⟨E,hrep,htr⟩:=hs1;have hw:Region.wanted o (yielded ops a1.tmps)=true:=by simp[Region.wanted,hgd]
  simp only[wpListIn];rw[ll hw];have hargs:=aq4 htr c.args;obtain⟨vs,hv,hsz,hr⟩:=bP8 (hev▸ag8 htr x);have hG:ns.f=G:=lK hbeq;have hcall:=hN.ok _ r.1 r.2.1 r.2.2 hrun hp w0 X0 s1.H E w1 hrep _ (az9 hargs hsz hr);have hopk:OpOK P o a1 w1 (λv w'=>bE0 w0 X0 s1.H E w1 (r.2.2 s1.H.length) (r.2.1 s1.H.length) v w'):=by
   refine aC2 (f:=ns.f) ?_ hcall;obtain⟨cc,ca,ct⟩:=c;simp only at hcal
   subst hcal;simp only[execOp,hop,resolve,Sem.run_bind,Sem.run_pure,rk,hv,Deferred.ofValue,invoke,uZ];rw[<-hG];exact hN.ent _ _
  refine hopk F nn hF _ _ λv w' hg=>?_
  obtain⟨E',le,hk',hx,hrep',hR,_⟩:=hg;exact b27 hspecs heqs hF ht2 (λa' w' hs'=>hq s' a' w' hK hs') _ _ ⟨E',hrep',(htr.mono hk' hx le).put hR⟩) a w hs
 rw[List.take_append_drop]at hall;exact wpIn_region_list hall
def StD(w0:World)(X0:Fr)(N base:Nat)(al:List Nat)(listed:Array Bool)(s:St)(a:Act)(w:World):Prop:=
 ∃E,Rep w0 X0 s.H E w/\TR (X0.n0 w0) w (Xo X0 E s.H) E N s.τ a/\∀j,j∈al->listed.getD j true=false->E (base+al.idxOf j)=none
theorem ar9{listed:Array Bool}{i j:Nat}(h:(listed.setIfInBounds i true).getD j true=false):listed.getD j true=false/\j≠i:=by
 rw[lc]at h⊢;by_cases e:i=j
 ·subst e;rw[Array.getElem?_setIfInBounds]at h;simp only[xj]at h;split at h<;>simp at h
 ·rw[lj e]at h;exact⟨h,λh'=>e h'.symm⟩
theorem cf8{l:List Nat}{i j:Nat}(hi:i∈l)(hj:j∈l)(h:l.idxOf i=l.idxOf j):i=j:=by
 have h1:=List.getElem_idxOf (uK hi);have h2:=List.getElem_idxOf (uK hj);rw[<-h1,<-h2];congr 1
theorem bA7{w0:World}{X0:Fr}(hspecs:∀s∈specs,ah9 P w0 X0 s)(heqs:∀t n,(t,n)∈eqs->EqOK P t n){ops:Array Oper}{F:Fence}{nn:Nat}(hF:Wd F){Q:Exit->Act->World->Prop}{base:Nat}{al:List Nat}{q:Nat}{ns:NSpec}(hN:NewsOK P ns)
  {k:St->Prop}{K:Act->World->Prop}{listed:Array Bool}{i:Nat}(hi:listed.getD i true=false) {s:St}{a:Act}{w:World}(h:bE7 P specs eqs N ops base al q ns i k s) (hs:StD w0 X0 N base al listed s a w)
  (hk:∀s' a' w',k s'->StD w0 X0 N base al (listed.setIfInBounds i true) s' a' w'->K a' w'):wpOpIn F nn P ops Q i K a w:=by
 obtain⟨E,hrep,htr,hun⟩:=hs;unfold bE7 at h;split at h
 ·exact h.elim
 rename_i o hoi;split at h
 ·exact h.elim
 rename_i hgd;unfold wpOpIn;rw[hoi];simp only
 have hw:Region.wanted o (yielded ops a.tmps)=true:=by simp[Region.wanted,hgd]
 rw[ll hw];split at h
 ·split at h
  case h_2=>exact h.elim
  rename_i c hop;split at h
  case h_2=>exact h.elim
  rename_i x hcal;split at h
  case h_2=>exact h.elim
  rename_i G n g hev;split at h
  case h_2=>exact h.elim
  rename_i hbeq;split at h
  case h_2=>exact h.elim
  rename_i r hrun;split at h
  case h_2=>exact h.elim
  rename_i hble;obtain⟨hp,hk'⟩:=h;have hargs:=aq4 htr c.args;obtain⟨vs,hv,hsz,hr⟩:=bP8 (hev▸ag8 htr x);have hG:ns.f=G:=lK hbeq;have hcall:=hN.ok _ r.1 r.2.1 r.2.2 hrun hp w0 X0 s.H E w hrep _ (az9 hargs hsz hr);have hopk:OpOK P o a w (λv w'=>bE0 w0 X0 s.H E w (r.2.2 s.H.length) (r.2.1 s.H.length) v w'):=by
   refine aC2 (f:=ns.f) ?_ hcall;obtain⟨cc,ca,ct⟩:=c;simp only at hcal
   subst hcal;simp only[execOp,hop,resolve,Sem.run_bind,Sem.run_pure,rk,hv,Deferred.ofValue,invoke,uZ];rw[<-hG];exact hN.ent _ _
  refine hopk F nn hF _ _ λv w' hg=>?_
  obtain⟨E',le,hkp,hx,hrep',hR,hold⟩:=hg;refine hk _ _ _ hk' ⟨E',hrep',(htr.mono hkp hx le).put hR,λj hj hl=>?_⟩;have hlt:=uK hj;have:=lN hble
  rw[hold _ (by omega)];exact hun j hj (ar9 hl).1
 ·split at h
  case h_2=>exact h.elim
  rename_i y hy;have fin:∀{HF:List SO},appE HF y.eff=HF->TR (X0.n0 w0) w (Xo X0 E HF) E N s.τ a->k ⟨putT o.dst y.val s.τ,HF⟩->(∀j,j∈al->(listed.setIfInBounds i true).getD j true=false->∀E':Env,(∀k,E' k≠none->E k≠none\/(k=base+al.idxOf i/\∃so,y.eff=.new so))->E' (base+al.idxOf j)=none)->
    ∀v w',Goes w0 X0 HF E w (base+al.idxOf i) y.eff y.val v w'->K (a.put o.dst v) w':=by
   intro HF he ht hkk hfree v w' ⟨E',le,hkp,hx,hr,hv,hnew⟩;rw[he]at hx hr hv;exact hk _ _ _ hkk ⟨E',hr,(ht.mono hkp hx le).put hv,λj hj hl=>hfree j hj hl E' hnew⟩
  have keep:(∀so,y.eff≠.new so)->∀j,j∈al->(listed.setIfInBounds i true).getD j true=false->∀E':Env,(∀k,E' k≠none->E k≠none\/(k=base+al.idxOf i/\∃so,y.eff=.new so))->E' (base+al.idxOf j)=none:=by
   intro hno j hj hl E' hnew;refine lz λhc=>?_
   rcases hnew _ hc with h1|⟨_,so,h1⟩
   ·exact h1 (hun j hj (ar9 hl).1)
   ·exact hno so h1
  split at h
  ·rename_i he;rw[force_eq]at h;exact ad8 hrep hspecs heqs htr hy h.1 (λso hso=>by rw[he]at hso;cases hso) F nn hF _ Q (fin (by rw[he];rfl) htr h.2 (keep λso hc=>by rw[he]at hc;cases hc))
  ·rename_i so he;split at h
   case h_2=>exact h.elim
   rename_i hb;rw[am9,force_eq]at h;rw[lr,lr]at hb;obtain⟨hd,hm,hlt⟩:=hb;have hdd:s.H.getD (base+al.idxOf i) .dead=.dead:=by
    revert hd;cases s.H.getD (base+al.idxOf i) .dead<;>simp[b72]
   have hmem:i∈al:=by
    obtain⟨j,hj,hji⟩:=uO.1 hm;rw[<-lK hji];exact hj
   have hlt':base+al.idxOf i<s.H.length:=lN hlt;have hn0:E (base+al.idxOf i)=none:=hun i hmem hi;have hoth:∀k e,E k=some e->(s.H.set (base+al.idxOf i) so).getD k .dead=s.H.getD k .dead:=λk e he=>aa3 λhc=>by rw[hc,hn0]at he;cases he
   have hxo:Xo X0 E (s.H.set (base+al.idxOf i) so)=Xo X0 E s.H:=an4 hoth;have hrep2:Rep w0 X0 (s.H.set (base+al.idxOf i) so) E w:=by
    refine⟨hrep.below,hrep.x0,hrep.nm,λk e he=>by rw[um];exact hrep.dom k e he,λk e he=>?_,λk e b he hb=>?_,λk k' e e' b he he' hb hb'=>?_⟩
    ·rw[hxo,hoth k e he];exact hrep.ok k e he
    ·rw[hoth k e he]at hb;exact hrep.low k e b he hb
    ·rw[hoth k e he]at hb;rw[hoth k' e' he']at hb';exact hrep.inj k k' e e' b he he' hb hb'
   have hext:Ext s.H (s.H.set (base+al.idxOf i) so):=λk hk=>aa3 λhc=>hk (by rw[hc];exact hdd)
   refine ad8 hrep2 hspecs heqs (by rw[hxo];exact htr) (aM6 hspecs hext (λl hc=>by rw[he]at hc;cases hc) hy) h.1 (λso' hso=>?_) F nn hF _ Q (fin (by rw[he];rfl) (by rw[hxo];exact htr) h.2 λj hj hl E' hnew=>?_)
   ·rw[he]at hso;cases hso;exact⟨hn0,by rw[um];exact hlt',ac3 hlt'⟩
   ·refine lz λhc=>?_
    rcases hnew _ hc with h1|⟨h1,_⟩
    ·exact h1 (hun j hj (ar9 hl).1)
    ·exact(ar9 hl).2 (cf8 hj hmem (by omega))
  ·rename_i l he;rw[am9,force_eq]at h;have hkeep:=keep λso hc=>by rw[he]at hc;cases hc
   refine ad8 hrep hspecs heqs htr hy h.1 (λso hso=>by rw[he]at hso;cases hso) F nn hF _ Q λv w' ⟨E',le,hkp,hx,hr,hv,hnew⟩=>?_
   rw[he]at hx hr hv;exact hk _ _ _ h.2 ⟨E',hr,(htr.mono hkp hx le).put hv,λj hj hl=>hkeep j hj hl E' hnew⟩
theorem aY9{w0:World}{X0:Fr}(hspecs:∀s∈specs,ah9 P w0 X0 s)(heqs:∀t n,(t,n)∈eqs->EqOK P t n){ops:Array Oper}{F:Fence}{nn:Nat}(hF:Wd F){Q:Exit->Act->World->Prop}{base:Nat}{al:List Nat}{q:Nat}{ns:NSpec}(hN:NewsOK P ns)
  {k:St->Prop}(hq:∀s' a' w',k s'->StR w0 X0 N s' a' w'->Q .normal a' w'):
  ∀(f:Nat)(listed:Array Bool)(s:St)(a:Act)(w:World),bF1 P specs eqs N ops base al q ns k f listed s->StD w0 X0 N base al listed s a w->wpAnyIn F nn P .any ops Q f listed a w
 |0,listed,s,a,w,h,hs=>by
  simp only[bF1]at h;split at h
  case h_2=>exact h.elim
  rename_i hr;exact⟨hr,hq _ _ _ h ⟨hs.choose,hs.choose_spec.1,hs.choose_spec.2.1⟩⟩
 |f+1,listed,s,a,w,h,hs=>by
  simp only[bF1]at h;split at h
  ·rename_i hr;exact⟨λ_=>hq _ _ _ h ⟨hs.choose,hs.choose_spec.1,hs.choose_spec.2.1⟩,λi hi=>by rw[hr]at hi;cases hi⟩
  ·rename_i hr;refine⟨λhc=>absurd hc (by assumption),λi hi=>?_⟩;exact bA7 hspecs heqs hF hN (aG0 hi).1 (bx2 h i hi) hs λs' a' w' h' hs'=>aY9 hspecs heqs hF hN hq f _ s' a' w' h' hs'
theorem bn2{w0:World}{X0:Fr}(hspecs:∀s∈specs,ah9 P w0 X0 s)(heqs:∀t n,(t,n)∈eqs->EqOK P t n)(hm:P.follows .mixedOrders=true){ops:Array Oper}{F:Fence}{nn:Nat}(hF:Wd F){Q:Exit->Act->World->Prop}{al:List Nat}{q:Nat}{ns:NSpec}{K:St->Prop}{s:St}
  (h:bE8 P specs eqs N ops al q ns K s) {id:Nat}{a:Act}{w:World}(hs:StR w0 X0 N s a w) (hq:∀s' a' w',K s'->StR w0 X0 N s' a' w'->Q .normal a' w'):(Code.region id ops true).wpIn F nn P Q a w:=by
 obtain⟨hN,h⟩:=h;refine wpIn_region_any hm (aY9 hspecs heqs hF hN hq _ _ _ _ _ h ?_);obtain⟨E,hrep,htr⟩:=hs;have hb:Below w.heap.size w w.drew:=(Below.refl _ _).drew;have hext:∀k<s.H.length,(s.H++al.map λ_=>SO.dead).getD k .dead=s.H.getD k .dead:=λk hk=>ab0 hk
 have hxo:Xo X0 E (s.H++al.map λ_=>SO.dead)=Xo X0 E s.H:=an4 λk e hke=>hext k (hrep.dom k e hke)
 refine⟨E,(hrep.world hb).ext (by simp) hext,by rw[hxo];exact htr.mono (Rep.keeps hb) (ab7.refl _ _) (Env.le_refl _),λj _ _=>?_⟩;cases hc:E (s.H.length+al.idxOf j)with
 |none=>rfl
 |some e=>have:=hrep.dom _ _ hc;omega
theorem bt9(A:Ann)(id:Nat)(ops:Array Oper)(d:Bool):opsOf A id ops d=ops\/d=true/\∃l,PermOK l ops/\opsOf A id ops d=ah2 l ops:=by
 unfold opsOf;split
 ·exact .inl rfl
 ·split
  ·split
   ·rename_i l hf _ hp;exact .inr ⟨rfl,l,bA5 hp,rfl⟩
   ·exact .inl rfl
  ·exact .inl rfl
def noRF:Code->Bool
 |.seq x y=>noRF x&&noRF y
 |.cond _ x y=>noRF x&&noRF y
 |.block _ c=>noRF c
 |.loop c=>noRF c
 |.scope c=>noRF c
 |.rangeFunc ..=>false
 |_=>true
theorem orL{A:Prop}{a b:Bool}(h:A\/(a&&b)=true):A\/a=true:=h.imp id λh=>(lr _ _▸h:a=true/\b=true).1
theorem orR{A:Prop}{a b:Bool}(h:A\/(a&&b)=true):A\/b=true:=h.imp id λh=>(lr _ _▸h:a=true/\b=true).2
theorem aN5{Γ:World->Fr->Prop}(hspecs:∀w0 X0,Γ w0 X0->∀s∈specs,ah9 P w0 X0 s)(heqs:∀t n,(t,n)∈eqs->EqOK P t n)(hm:P.follows .mixedOrders=true):
  ∀(c:Code),((∀w0 X0,Γ w0 X0)\/noRF c=true)->∀{w0:World}{X0:Fr}{m:Nat}{r:Bool}{F:Fence}{n:Nat}(_:Γ w0 X0)(_:FrOK r F)(_:r=false->X0.marks=true)(_:∀ k,X0.nm k≠none->k<m)(A:Ann)(K:SK)(Q:Exit->Act->World->Prop)(s:St),vc P specs eqs N m r A c K s->cu5 w0 X0 N K Q->∀a w,StR w0 X0 N s a w->c.wpIn F n P Q a w:=by
 intro c;induction c with
 |skip=>intro hN w0 X0 m r F nn hΓ hF hmk hnm _ K Q s h hl a w hs;exact wpIn_skip (hl .normal s a w h hs)
 |label l=>intro hN w0 X0 m r F nn hΓ hF hmk hnm _ K Q s h hl a w hs;exact wpIn_label (hl .normal s a w h hs)
 |region id ops d=>
  intro hN w0 X0 m r F nn hΓ hF hmk hnm A K Q s h hl a w hs;simp only[vc]at h;have fin:∀{a':Act}{w':World}{s':St},aH8 N m A id (K .normal) s'->StR w0 X0 N s' a' w'->Q .normal a' w':=by
   intro a' w' s' hK hs';obtain⟨s2,h1,h2⟩:=by3 hK hnm hs' λhm hs=>az5 hnm hm hs
   exact hl .normal s2 a' w' h1 h2
  have post:∀{a':Act}{w':World}{s':St},aH7 m N (aH8 N m A id (K .normal)) s' (aU5 A.preps (1000000+id))->StR w0 X0 N s' a' w'->Q .normal a' w':=by
   intro a' w' s' hK hs';revert hK;cases aU5 A.preps (1000000+id)with
   |nil=>exactλhK=>fin hK hs'
   |cons p r=>
    intro hK;simp only[aH7]at hK;split at hK
    case h_2=>exact hK.elim
    rename_i s2 hp;exact fin hK (al6 hnm hp hs')
  have go:∀{l:List PrepA}{s:St},(match as5 m N s l with
    |some s'=>vcGo P specs eqs N (opsOf A id ops d) d (λs=>aH7 m N (aH8 N m A id (K .normal)) s (aU5 A.preps (1000000+id))) s'
    |none=>False)->StR w0 X0 N s a w->(Code.region id ops d).wpIn F nn P Q a w:=by
   intro l s h hs;split at h
   case h_2=>exact h.elim
   rename_i s1 hp;unfold vcGo at h;split at h
   ·obtain⟨s',ht,hK⟩:=av8 h;split at hK
    case h_2=>exact hK.elim
    rename_i hR;exact aI9 (hspecs w0 X0 hΓ) heqs hm (bt9 A id ops _) hF.wd ht (λ_=>hR) (λa' w' hs'=>post hK hs') (al6 hnm hp hs)
   ·obtain⟨s',ht,hK⟩:=av8 h;exact aI9 (hspecs w0 X0 hΓ) heqs hm (bt9 A id ops _) hF.wd ht (λhd=>by cases hd) (λa' w' hs'=>post hK hs') (al6 hnm hp hs)
  have reg0:∀{s:St},br0 P specs eqs N m A id ops d (aH8 N m A id (K .normal)) s->StR w0 X0 N s a w->(Code.region id ops d).wpIn F nn P Q a w:=by
   intro s h hs;simp only[br0]at h;split at h
   ·split at h
    ·exact h.elim
    ·exact bB2 (hspecs w0 X0 hΓ) heqs hF.wd h hs (λs' a' w' hK hs'=>post hK hs')
   ·split at h
    ·exact bn2 (hspecs w0 X0 hΓ) heqs hm hF.wd h hs (λs' a' w' hK hs'=>post hK hs')
    ·exact h.elim
   split at h
   ·split at h
    case h_2=>exact h.elim
    rename_i q hq;rcases be9 hq hs with⟨h0,hs1⟩|hs2
    ·exact go (h.1 h0) hs1
    ·exact go h.2 hs2
   ·exact go h hs
  unfold ck2 at h;split at h
  ·obtain⟨hok,hmeet,hall⟩:=h;obtain⟨g,hg,hs2⟩:=az5 hnm hmeet hs;obtain⟨J,hJ,j,hj,hs3⟩:=hok g hg w0 X0 a w hnm hs2;exact reg0 (ba9 hall J hJ j hj) hs3
  ·exact reg0 h hs
 |seq x y ihx ihy=>
  intro hN w0 X0 m r F nn hΓ hF hmk hnm A K Q s h hl a w hs;simp only[vc]at h;split at h
  ·refine wpIn_seq (ihx (orL hN) hΓ hF hmk hnm A _ _ s h (λe s' a' w' hk hs'=>?_) a w hs);cases e with
   |normal=>exact ihy (orR hN) hΓ hF hmk hnm A K Q s' hk hl a' w' hs'
   |exit id=>exact hl _ s' a' w' hk hs'
   |ret=>exact hl _ s' a' w' hk hs'
  ·rename_i I hI;refine wpIn_seq (ihx (orL hN) hΓ hF hmk hnm A _ _ s h.1 (λe s' a' w' hk hs'=>?_) a w hs);cases e with
   |normal=>
    obtain⟨g,hg,hs2⟩:=az5 hnm hk hs';exact ihy (orR hN) hΓ hF hmk hnm A K Q _ (h.2 g hg) hl a' w' hs2
   |exit id=>exact hl _ s' a' w' hk hs'
   |ret=>exact hl _ s' a' w' hk hs'
 |cond c x y ihx ihy=>
  intro hN w0 X0 m r F nn hΓ hF hmk hnm A K Q s h hl a w hs;simp only[vc]at h;obtain⟨E,hrep,htr⟩:=id hs;split at h
  ·rename_i b hb;have hv:=aN0 (hb▸ag8 htr c);cases b with
   |true=>exact wpIn_cond_true hv (ihx (orL hN) hΓ hF hmk hnm A K Q s h hl a w hs)
   |false=>exact wpIn_cond_false hv (ihy (orR hN) hΓ hF hmk hnm A K Q s h hl a w hs)
  ·rename_i b hb;have hv:=bO1 (hb▸ag8 htr c);cases b with
   |true=>exact wpIn_cond_true hv (ihx (orL hN) hΓ hF hmk hnm A K Q s h hl a w hs)
   |false=>exact wpIn_cond_false hv (ihy (orR hN) hΓ hF hmk hnm A K Q s h hl a w hs)
  ·exact h.elim
 |block id c ih=>
  intro hN w0 X0 m r F nn hΓ hF hmk hnm A K Q s h hl a w hs;refine wpIn_block (ih hN hΓ hF hmk hnm A _ _ s h (λe s' a' w' hk hs'=>?_) a w hs);cases e with
  |normal=>exact hl _ s' a' w' hk hs'
  |exit i=>
   simp only[b81]at hk;simp only[SExit.lift,Exit.inBlock];split
   ·rename_i hi;rw[ll hi]at hk;exact hl .normal s' a' w' hk hs'
   ·rename_i hi;rw[lu hi]at hk;exact hl (.exit i) s' a' w' hk hs'
  |ret=>exact hl _ s' a' w' hk hs'
 |loop c ih=>
  intro hN w0 X0 m r F nn hΓ hF hmk hnm A K Q s h hl a w hs;simp only[vc]at h;split at h
  case h_2=>exact h.elim
  split at h
  case h_5=>exact h.elim
  ·rename_i I hI;obtain⟨⟨g0,⟨hp0⟩,hs0⟩,hround⟩:=h;refine wpIn_loop_ghost (λn a w=>∃g,I.pre g/\I.meas g=n/\StR w0 X0 N (I.st g) a w) (I.meas g0) ⟨g0,hp0,rfl,hs.le hnm hs0.get.1 hs0.get.2⟩ ?_;rintro n a w ⟨g,hp,rfl,hsg⟩;refine ih hN hΓ hF hmk hnm A _ _ (I.st g) (hround g hp) (λe s' a' w' hk hs'=>?_) a w hsg;cases e with
   |normal=>
    obtain⟨g',⟨hp'⟩,hle⟩:=hk;obtain⟨hle1,hle2,⟨hlt⟩⟩:=hle.get;exact⟨_,hlt,g',hp',rfl,hs'.le hnm hle1 hle2⟩
   |exit id=>exact hl _ s' a' w' hk hs'
   |ret=>exact hl _ s' a' w' hk hs'
  ·rename_i I sub hI;obtain⟨⟨g0,⟨hp0⟩,hs0⟩,hround⟩:=h;refine wpIn_loop_ghost (λn a w=>∃g,I.pre g/\I.meas g=n/\StR w0 X0 N (I.st g) a w) (I.meas g0) ⟨g0,hp0,rfl,hs.le hnm hs0.get.1 hs0.get.2⟩ ?_;rintro n a w ⟨g,hp,rfl,hsg⟩;refine ih hN hΓ hF hmk hnm _ _ _ (I.st g) (hround g hp) (λe s' a' w' hk hs'=>?_) a w hsg;cases e with
   |normal=>
    obtain⟨g',⟨hp'⟩,hle⟩:=hk;obtain⟨hle1,hle2,⟨hlt⟩⟩:=hle.get;exact⟨_,hlt,g',hp',rfl,hs'.le hnm hle1 hle2⟩
   |exit id=>exact hl _ s' a' w' hk hs'
   |ret=>exact hl _ s' a' w' hk hs'
  ·rename_i n hn;refine wpIn_loop_rounds n ?_;clear hn;induction n generalizing s a w with
   |zero=>exact h.elim
   |succ n ihn=>
    rw[roundsIn_succ];refine ih hN hΓ hF hmk hnm A _ _ s h (λe s' a' w' hk hs'=>?_) a w hs;cases e with
    |normal=>exact ihn s' a' w' hs' hk
    |exit id=>exact hl _ s' a' w' hk hs'
    |ret=>exact hl _ s' a' w' hk hs'
  ·rename_i n I sub hn;refine wpIn_loop_rounds n ?_;clear hn;generalize 0=k at h;induction n generalizing s a w k with
   |zero=>exact h.elim
   |succ n ihn=>
    rw[roundsIn_succ];obtain⟨hW,h⟩:=h;refine ih hN hΓ hF hmk hnm _ _ _ (I k) h (λe s' a' w' hk hs'=>?_) a w (hs.le hnm hW.get.1 hW.get.2);cases e with
    |normal=>exact ihn s' a' w' hs' (k+1) hk
    |exit id=>exact hl _ s' a' w' hk hs'
    |ret=>exact hl _ s' a' w' hk hs'
 |exit id=>intro hN w0 X0 m r F nn hΓ hF hmk hnm _ K Q s h hl a w hs;exact wpIn_exit (hl (.exit id) s a w h hs)
 |ret=>intro hN w0 X0 m r F nn hΓ hF hmk hnm _ K Q s h hl a w hs;exact wpIn_ret (hl .ret s a w h hs)
 |_=>intro hN w0 X0 m r F nn hΓ hF hmk hnm _ K Q s h;exact h.elim
theorem aZ4(hspecs:∀s∈specs,aa5 P s)(heqs:∀t n,(t,n)∈eqs->EqOK P t n)(hm:P.follows .mixedOrders=true)(c:Code){w0:World}{X0:Fr}{m:Nat}{r:Bool}{F:Fence}{n:Nat}(hF:FrOK r F)(hmk:r=false->X0.marks=true)(hnm:∀k,X0.nm k≠none->k<m)(A:Ann)(K:SK)(Q:Exit->Act->World->Prop)(s:St)(h:vc P specs eqs N m r A c K s)(hl:cu5 w0 X0 N K Q)(a:Act)(w:World)(hs:StR w0 X0 N s a w):c.wpIn F n P Q a w:=
 aN5 (Γ:=λ_ _=>True) (λw0 X0 _ s hs=>(hspecs s hs).at w0 X0) heqs hm c (.inl λ_ _=>trivial) trivial hF hmk hnm A K Q s h hl a w hs
end
def resS(P:Program)(N:Nat)(s:St):List ResultVar->Option (Prop×List SV)
 | []=>some (True,[])
 |.tmp t::r=>match resS P N s r with
  |some (p,l)=>some (p,evO N s.τ (.tmp t)::l)
  |none=>none
 |.cell a T::r=>match tinf P T with
  |some ti=>match ad4 ti s.H (evO N s.τ (.tmp a))with
   |some y=>match resS P N s r with
    |some (p,l)=>some (y.ask/\p,y.val::l)
    |none=>none
   |none=>none
  |none=>none
def oneOf:List SV->SV
 | [s]=>s
 |l=> .tup l.length (λi=>l.getD i .any)
def b93(P:Program)(fn:Func)(res:SV)(s:St):Prop:=
 match resS P fn.ntmps s fn.results.toList with
 |some (p,l)=>p/\match au8 s.H (aQ0 s.H 6 (oneOf l))with
  |some fl=>match pur (ad5 s.H fl) 6 (oneOf l)with
   |some v=>SVle [] [] v res
   |none=>False
  |none=>False
 |none=>False
def retK(P:Program)(fn:Func)(res:SV):SK
 |.exit _,_=>False
 |_,s=>b93 P fn res s
def as7:Nat->List SV->Tmps
 |_,[]=>[]
 |i,s::r=>(i,s)::as7 (i+1) r
theorem aG1:∀(l:List SV)(i t:Nat),i<=t->ac5 (as7 i l) t=l.getD (t-i) .any
 | [],i,t,_=>by simp[as7,ac5]
 |s::r,i,t,h=>by
  simp only[as7,ac5];split
  ·rename_i he;subst he;simp
  ·rw[aG1 r (i+1) t (by omega),show t-i=(t-(i+1))+1 by omega,List.getD_cons_succ]
def bt1(tmps:Array Value):ResultVar->Sem Value
 |.tmp t=>pure (tmps.getD t undef)
 |.cell c t=>do loadVar t (← asAddr (tmps.getD c undef))
theorem aw4(fn:Func)(tmps:Array Value):results fn tmps=(fn.results.mapM (bt1 tmps) >>= λvs=>pure (if h:vs.size=1 then vs[0]else .tuple vs)):=by
 unfold results;congr 1
theorem aF5{P:Program}{n0 w0 X0 H E w N τ a}(h:Rep w0 X0 H E w)(ht:TR n0 w (Xo X0 E H) E N τ a):∀(rs:List ResultVar)(p:Prop)(l:List SV),resS P N ⟨τ,H⟩ rs=some (p,l)->p->
  ∃vs:List Value,(rs.mapM (bt1 a.tmps)).run P w=.ok vs w/\vs.length=l.length/\∀i<l.length,R w (Xo X0 E H) E (l.getD i .any) (vs.getD i undef)
 | [],p,l,hr,_=>by
  simp only[resS,sk,Prod.mk.injEq]at hr;obtain⟨rfl,rfl⟩:=hr;exact⟨[],by simp,rfl,λi hi=>absurd hi (ln _)⟩
 |.tmp t::r,p,l,hr,hp=>by
  simp only[resS]at hr;split at hr
  case h_2=>cases hr
  rename_i p' l' hr';simp only[sk,Prod.mk.injEq]at hr;obtain⟨rfl,rfl⟩:=hr;obtain⟨vs,h1,h2,h3⟩:=aF5 h ht r p' l' hr' hp;refine⟨a.tmps.getD t undef::vs,by simp only[lae,bt1,Sem.run_bind,Sem.run_pure,rk,h1],by simp[h2],λi hi=>?_⟩;cases i with
  |zero=>exact ag8 ht (.tmp t)
  |succ i=>exact h3 i (by simpa using hi)
 |.cell c T::r,p,l,hr,hp=>by
  simp only[resS]at hr;split at hr
  case h_2=>cases hr
  rename_i ti hti;split at hr
  case h_2=>cases hr
  rename_i y hy;split at hr
  case h_2=>cases hr
  rename_i p' l' hr';simp only[sk,Prod.mk.injEq]at hr;obtain⟨rfl,rfl⟩:=hr;obtain⟨vs,h1,h2,h3⟩:=aF5 h ht r p' l' hr' hp.2;obtain⟨ad,u,g1,g2,g3,g4⟩:=aY4 (P:=P) h hti (ag8 ht (.tmp c)) hy hp.1;have g1':a.tmps.getD c undef=.pointer (some ad):=g1;refine⟨u::vs,by simp only[lae,bt1,g1',asAddr,Sem.run_bind,Sem.run_pure,rk,g2,h1],by simp[h2],λi hi=>?_⟩;cases i with
  |zero=>exact g4
  |succ i=>exact h3 i (by simpa using hi)
def aa9(f:FuncId){γ:Type}(dec:List SV->Option γ)(args:γ->List SV)(pre:γ->Prop)(res:γ->SV):FSpec:=
 {f:=f,eff:=false,run:=λl _ _=>match l.all (ac4 6)with
  | true=>match dec l with
    |some g=>some ⟨leArgs l (args g)/\Aq (pre g),res g,.keep⟩
    |none=>none
  |false=>none}
where leArgs:List SV->List SV->Prop
 | [],[]=>True
 |s::l,t::r=>SVle [] [] s t/\leArgs l r
 |_,_=>False
theorem am1:∀{l r:List SV},aa9.leArgs l r->l.length=r.length/\∀i<r.length,SVle [] [] (l.getD i .any) (r.getD i .any)
 | [],[],_=>⟨rfl,λi hi=>absurd hi (ln _)⟩
 | [],_::_,h=>h.elim
 |_::_,[],h=>h.elim
 |s::l,t::r,h=>by
  obtain⟨h1,h2⟩:=h;obtain⟨h3,h4⟩:=am1 h2;refine⟨by simp[h3],λi hi=>?_⟩;cases i with
  |zero=>exact h1
  |succ i=>exact h4 i (by simpa using hi)
theorem bA3{w:World}{X X':Nat->Prop}(hx:∀b,X' b->X b){s t:SV}{v:Value}(hl:SVle [] [] s t)(hr:R w X E0 s v):R w X' E0 t v:=by
 have:=ah1 (H:=[]) (H':=[]) hx (E:=E0) (λk ver v us h=>by cases h) hl hr
 rwa[by0]at this
theorem aE2{w X E}{ss:List SV}{vs:Array Value}(h:ax8 w X E ss vs)(hp:ss.all (ac4 6)=true):∀i<ss.length,R w X E0 (ss.getD i .any) (vs.getD i undef):=λi hi=>by
 refine ae6 6 _ _ ?_ (h.2 i hi);rw[la,lw hi];exact xd.1 hp _ (xv hi)
structure GOK(Γ:World->Fr->Prop):Prop where
 next:∀{w0 X0 H E w X},Γ w0 X0->Rep w0 X0 H E w->Γ w (Fr.of X)
def bq3(Γ:World->Fr->Prop)(P:Program)(s:FSpec):Prop:=∀w0 X0,Γ w0 X0->ah9 P w0 X0 s
theorem aa5.g{Γ:World->Fr->Prop}{P:Program}{s:FSpec}(h:aa5 P s):bq3 Γ P s:=λw0 X0 _=>h.at w0 X0
theorem an5{P:Program}{s:FSpec}(h:∀w0 X0,ah9 P w0 X0 s):aa5 P s:=
 ⟨(h default (Fr.of λ_=>False)).1,(h default (Fr.of λ_=>False)).2.1,λargs H nm y hr ha w0 X0 E w hrep hf vals hA=>(h w0 X0).2.2 args H nm y hr ha E w hrep hf vals hA⟩
def topG:World->Fr->Prop:=λ_ _=>True
theorem bF7:GOK topG:=⟨λ_ _=>trivial⟩
theorem br8{Γ:World->Fr->Prop}(hG:GOK Γ){P:Program}{f:FuncId}{γ:Type}{dec:List SV->Option γ}{args:γ->List SV}{pre:γ->Prop}{res:γ->SV}(hent:∀args w,(callFunc f args).run P w=.ok (.enter f args) w)
  (h:∀g,pre g->∀(vals:Array Value)(w:World)(X:Nat->Prop),vals.size=(args g).length->(∀i<(args g).length,R w X E0 ((args g).getD i .any) (vals.getD i undef))->(∀b,X b->b<w.heap.size)->Γ w (Fr.of X)->
   Calls P f vals w λe w'=>∃v,e=.returned v/\R w' X E0 (res g) v/\Below w.heap.size w w'):bq3 Γ P (aa9 f dec args pre res):=by
 refineλw0 X0 hΓ=>⟨hent,λargs H HF nm y _ _ h=>h,λl H nm y hrun hp E w hrep hf vals ha=>?_⟩
 simp only[aa9]at hrun;split at hrun
 case h_2=>cases hrun
 rename_i hpu;split at hrun
 case h_2=>cases hrun
 rename_i g hdec;cases hrun;obtain⟨hle,⟨hpre⟩⟩:=hp;obtain⟨hll,hle⟩:=am1 hle;have hr:=aE2 ha hpu;have hsz:=ha.1;refine(h g hpre vals w (Xo X0 E H) (by omega) (λi hi=>bA3 (λ_ hb=>hb) (hle i hi) (hr i (by omega))) hrep.xlt (hG.next hΓ hrep)).mono ?_;rintro e w' ⟨v,rfl,h1,h2⟩;exact⟨v,rfl,Goes.world hrep h2 (up h1)⟩
theorem bI4{P:Program}{f:FuncId}{γ:Type}{dec:List SV->Option γ}{args:γ->List SV}{pre:γ->Prop}{res:γ->SV}(hent:∀args w,(callFunc f args).run P w=.ok (.enter f args) w)
  (h:∀g,pre g->∀(vals:Array Value)(w:World)(X:Nat->Prop),vals.size=(args g).length->(∀i<(args g).length,R w X E0 ((args g).getD i .any) (vals.getD i undef))->(∀b,X b->b<w.heap.size)->
   Calls P f vals w λe w'=>∃v,e=.returned v/\R w' X E0 (res g) v/\Below w.heap.size w w'):aa5 P (aa9 f dec args pre res):=
 an5 λw0 X0=>br8 bF7 hent (λg hp vals w X hs hr hX _=>h g hp vals w X hs hr hX) w0 X0 trivial
theorem am2(N:Nat)(vals:Array Value)(l:List SV)(w:World)(X:Nat->Prop)(E:Env)(hsz:vals.size=l.length)(hlen:l.length<=N)(hr:∀i<l.length,R w X E (l.getD i .any) (vals.getD i undef)):
  (vals++Array.replicate (N-vals.size) undef).size=N/\∀t<N,R w X E (ac5 (as7 0 l) t) ((vals++Array.replicate (N-vals.size) undef).getD t undef):=by
 refine⟨by simp only[Array.size_append,Array.size_replicate];omega,λt ht=>?_⟩;rw[aG1 _ _ _ (lB _),lah];by_cases hlt:t<l.length
 ·have e1:(vals++Array.replicate (N-vals.size) undef).getD t undef=vals.getD t undef:=by
   rw[lc,xk (by omega),lc]
  rw[e1];exact hr t hlt
 ·rw[la,xC (uM.1 hlt)];exact .any
theorem aj3{P:Program}{n0 w0 X0 H E w N τ a}{fn:Func}(hN:N=fn.ntmps)(hrep:Rep w0 X0 H E w)(htr:TR n0 w (Xo X0 E H) E N τ a){p:Prop}{l:List SV}(hres:resS P fn.ntmps ⟨τ,H⟩ fn.results.toList=some (p,l))(hp:p):
  ∃v,(results fn a.tmps).run P w=.ok v w/\R w (Xo X0 E H) E (oneOf l) v:=by
 subst hN;obtain⟨vs,h1,h2,h3⟩:=aF5 (P:=P) hrep htr _ _ _ hres hp;have hrun:(results fn a.tmps).run P w=.ok (if hh:vs.toArray.size=1 then vs.toArray[0]else .tuple vs.toArray) w:=by
  rw[aw4,Array.mapM_eq_mapM_toList (m:=Sem)];simp only[bind_map_left,Sem.run_bind,h1,rk,Sem.run_pure]
 refine⟨_,hrun,?_⟩;match l,vs,h2,h3 with
 | [s1],[v1],_,h3=>exact h3 0 (by simp)
 | [],[],_,h3=>exact .tup rfl λi hi=>absurd hi (ln _)
 |s1::s2::l,v1::v2::vs,h2,h3=>
  rw[dif_neg (by simp)];refine .tup (by simpa using h2) λi hi=>?_
  have:=h3 i hi
  simpa[lc,la]using this
theorem LeavesInM.taken{P:Program}{fn:Func}{R:Ending->World->Prop}{w0 X0 N s}{tmps:Array Value}(G:∀(a:Act)(w:World),a.tmps=tmps->a.defers=[]->StR w0 X0 N s a w->∃v,(results fn a.tmps).run P w=.ok v w/\R (.returned v) w):
  ∀(ds:List Deferred)(a:Act)(w:World),a.tmps=tmps->a.defers=ds->StR w0 X0 N s a w->LeavesInM Fence.wide 0 P fn tmps R ds .returning w
 | [],a,w,ht,hd,hs=>by
  obtain⟨v,h1,h2⟩:=G a w ht hd hs;rw[ht]at h1;exact⟨v,h1,h2⟩
 |d::ds,a,w,ht,hd,hs=>by
  obtain⟨E,hrep,htr⟩:=hs;obtain⟨hno,hp,hall⟩:=htr.2.1;rw[hd]at hno hp hall;have hmk:X0.n0 w0=some w0.heap.size:=by
   unfold Fr.n0 at hno⊢;split at hno
   ·rfl
   ·cases hno rfl
  obtain⟨D,rfl,h1,h2,h3⟩:=hall d lP;refine⟨by simp,.inl ⟨D,_,rfl,run_takeDeferred h2,?_⟩⟩;refine LeavesInM.taken G ds {a with defers:=ds} _ ht rfl ⟨E,hrep.turn (h1 _ hmk) h2 (.inl ⟨_,rfl⟩),htr.1,⟨λhc=>(by rw[hmk]at hc;cases hc),(uY.1 hp).2,λd' hd'=>?_⟩,λt ht'=>(htr.2.2 t ht').turn (aA2.putObj h2 (.inl ⟨_,rfl⟩))⟩;obtain⟨D',rfl,g1,g2,g3⟩:=hall d' (lS _ hd');refine⟨D',rfl,g1,(World.putObj_heap_other λhc=>?_).trans g2,g3⟩;subst hc;exact(uY.1 hp).1 _ hd' rfl
theorem an2{P:Program}{f:FuncId}{fn:Func}{c:Code}{args:Array Value}{w:World}{R:Ending->World->Prop}{w0 X0}{G:St->Prop}(hf:P.funcs[f]?=some fn)(hb:fn.body=some c)
  (h:c.wpIn Fence.wide 0 P (λe a w'=>match e with|.normal=>∃s,G s/\StR w0 X0 fn.ntmps s a w'|.ret=>∃s,G s/\StR w0 X0 fn.ntmps s a w'|_=>False) {tmps:=args++Array.replicate (fn.ntmps-args.size) undef,defers:=[]} w)
  (fin:∀s (a:Act) w',G s->a.defers=[]->StR w0 X0 fn.ntmps s a w'->∃v,(results fn a.tmps).run P w'=.ok v w'/\R (.returned v) w'):Calls P f args w R:=by
 refine callsIn_wide.1 (callsIn_of_wp_marks (n:=0) hf hb trivial (wpIn_mono h λe a w' hq=>?_) rfl);cases e with
 |normal=>
  obtain⟨s,hg,hs⟩:=hq;exact LeavesInM.taken (λa' w' _ hd hs=>fin s a' w' hg hd hs) a.defers a w' rfl rfl hs
 |ret=>
  obtain⟨s,hg,hs⟩:=hq;exact LeavesInM.taken (λa' w' _ hd hs=>fin s a' w' hg hd hs) a.defers a w' rfl rfl hs
 |exit id=>exact hq.elim
 |goto t=>exact hq.elim
 |panic ch=>exact hq.elim
 |outgrown=>exact hq.elim
theorem bl1{Γ:World->Fr->Prop}(hG:GOK Γ){P:Program}{specs:List FSpec}(hspecs:∀s∈specs,bq3 Γ P s){eqs:List (TypeId×List CK)}(heqs:∀t n,(t,n)∈eqs->EqOK P t n)(hm:P.follows .mixedOrders=true)
  {f:FuncId}{fn:Func}{body:Code}(hf:P.funcs[f]?=some fn) (hb:fn.body=some body) (_:al7 (effS specs) body=true) (hN:(∀w0 X0,Γ w0 X0)\/noRF body=true) (hent:∀args w,(callFunc f args).run P w=.ok (.enter f args) w)
  {γ:Type}{dec:List SV->Option γ}{args:γ->List SV}{pre:γ->Prop}{res:γ->SV}(A:γ->Ann) (hlen:∀g,(args g).length<=fn.ntmps)
  (h:∀g,pre g->vc P specs eqs fn.ntmps 0 false (A g) body (retK P fn (res g)) ⟨as7 0 (args g),[]⟩):bq3 Γ P (aa9 f dec args pre res):=by
 refine br8 hG hent λg hpre vals w X hsz hr hX hΓ=>?_
 have hvc:=h g hpre;refine an2 (w0:=w) (X0:=Fr.of X) (G:=b93 P fn (res g)) hf hb (aN5 (Γ:=Γ) (w0:=w) (X0:=Fr.of X) (λw0 X0 h s hs=>hspecs s hs w0 X0 h) heqs hm body hN hΓ (.inl rfl) (λ_=>rfl) (λk hk=>absurd rfl hk) _ _ _ _ hvc (λe s a w' hk hs=>?walk) _ w ?start) (λs a w' hk _ hs=>?fin)
 case walk=>
  cases e with
  |normal=>exact⟨s,hk,hs⟩
  |ret=>exact⟨s,hk,hs⟩
  |exit id=>exact hk.elim
 case fin=>
   obtain⟨E,hrep,htr⟩:=hs;unfold b93 at hk;split at hk
   case h_2=>exact hk.elim
   rename_i p l hres;obtain⟨hp,hk⟩:=hk;obtain⟨v,hv1,hv2⟩:=aj3 rfl hrep htr hres hp;split at hk
   case h_2=>exact hk.elim
   rename_i fl hfl;split at hk
   case h_2=>exact hk.elim
   rename_i sv hsv;obtain⟨g1,g2⟩:=ag6 _ _ _ hrep hfl;have hpure:=ap7 g1 6 _ _ _ hsv (hv2.mono (λ_ _ _=>rfl) g2 (Env.le_refl _));exact⟨v,hv1,v,rfl,bA3 (λb hb=> .inl hb) hk hpure,hrep.below.all⟩
 case start=>
  have hxo:Xo (Fr.of X) E0 []=X:=by
   funext b;apply propext;exact⟨λhb=>hb.elim id (λ⟨k,e,he,_⟩=>(nomatch he)),λhb=>Or.inl hb⟩
  have hT:=am2 fn.ntmps vals (args g) w X E0 hsz (hlen g) hr;refine⟨E0,⟨Bel.refl _ _,λb hb=>⟨hX b hb,id⟩,λk e he=>(nomatch he),λk e he=>(nomatch he),λk e he=>(nomatch he),λk e b he=>(nomatch he),λk k' e e' b he=>(nomatch he)⟩,hT.1,aA4.nil _ _ _,λt ht=>?_⟩;rw[hxo];exact hT.2 t ht
theorem aF0{P:Program}{specs:List FSpec}(hspecs:∀s∈specs,aa5 P s){eqs:List (TypeId×List CK)}(heqs:∀t n,(t,n)∈eqs->EqOK P t n)(hm:P.follows .mixedOrders=true)
  {f:FuncId}{fn:Func}{body:Code}(hf:P.funcs[f]?=some fn) (hb:fn.body=some body) (hc:al7 (effS specs) body=true) (hent:∀args w,(callFunc f args).run P w=.ok (.enter f args) w)
  {γ:Type}{dec:List SV->Option γ}{args:γ->List SV}{pre:γ->Prop}{res:γ->SV}(A:γ->Ann) (hlen:∀g,(args g).length<=fn.ntmps)
  (h:∀g,pre g->vc P specs eqs fn.ntmps 0 false (A g) body (retK P fn (res g)) ⟨as7 0 (args g),[]⟩):aa5 P (aa9 f dec args pre res):=
 an5 λw0 X0=>bl1 bF7 (λs hs=>(hspecs s hs).g) heqs hm hf hb hc (.inl λ_ _=>trivial) hent A hlen h w0 X0 trivial
open Go.RowKit
def aY3(P:Program)(rec:TypeId->Option (List CK)):List Field->Nat->Option (List CK)
 | [],_=>some []
 | f::fs,off=>if f.name ≠ "_" ∧ f.offset=off then match rec f.type with
   |some ks=>match tinf P f.type with
    | some (m,_)=>if m=ks.length/\0<m then match aY3 P rec fs (off+m)with
      |some r=>some (ks++r)
      |none=>none
     else none
    |none=>none
   |none=>none
  else none
def rep(ks:List CK):Nat->List CK
 |0=>[]
 |n+1=>ks++rep ks n
def aR2(P:Program):Nat->TypeId->Option (List CK)
 |0,_=>none
 |d+1,t=>match P.underlying t with
  |some .bool=>some [.bool]
  |some (.int _)=>some [.int]
  |some .string=>some [.str]
  |some (.array len e)=>match aR2 P d e with
   |some ks=>match tinf P e with
    |some (m,_)=>if m=ks.length/\0<m then some (rep ks len)else none
    |none=>none
   |none=>none
  |some (.struct fs)=>if P.stoodInHeld t=true then none else aY3 P (aR2 P d) fs.toList 0
  |_=>none
theorem ao6{g f:Nat->SV}:∀{l r:List CK}{i:Nat}{b:Bool},af3 g f (l++r) i=some b->∃c t,af3 g f l i=some c/\af3 g f r (i+l.length)=some t/\b=(c&&t)
 | [],r,i,b,h=>⟨true,b,rfl,by simpa using h,by simp⟩
 |k::l,r,i,b,h=>by
  simp only[uP,af3]at h⊢;cases h1:eqC k (g i) (f i)with
  |none=>rw[h1]at h;cases h
  |some c=>
   cases h2:af3 g f (l++r) (i+1)with
   |none=>rw[h1,h2]at h;cases h
   |some t=>
    rw[h1,h2]at h;cases h;obtain⟨c',t',h3,h4,rfl⟩:=ao6 h2;rw[h3];exact⟨_,t',rfl,by rw[xU,show i+(l.length+1)=i+1+l.length by omega];exact h4,by simp[Bool.and_assoc]⟩
theorem aE0{g f:Nat->SV}:∀{l:List CK}{i off:Nat},af3 g f l (off+i)=af3 (λj=>g (off+j)) (λj=>f (off+j)) l i
 | [],_,_=>rfl
 |k::l,i,off=>by simp only[af3];rw[show off+i+1=off+(i+1)by omega,aE0]
def b84(P:Program)(t:TypeId):CK->Prop
 |.int=>∃k,P.underlying t=some (.int k)
 |.bool=>P.underlying t=some .bool
 |.str=>P.underlying t=some .string
theorem bQ5{P:Program}{w X E}{t:TypeId}{k:CK}{s r:SV}{x y:Value}{c:Bool}(hs:R w X E s x)(hr:R w X E r y)(he:eqC k s r=some c)(D:Nat)
  (hu:b84 P t k):(Op.equalIn (D+1) t x y).run P w=.ok c w:=by
 cases k with
 |int=>
  simp only[eqC]at he;split at he
  ·rename_i k a k' b;obtain⟨hk,rfl⟩:=aa0 he;subst hk;obtain⟨k0,h0⟩:=hu;rw[ah3 hs,ah3 hr,run_equalIn_int w D t k k0 a b h0,beq_eq_decide]
  ·cases he
 |bool=>
  simp only[eqC]at he;split at he
  ·rename_i a b ha hb;cases he;rw[aH5 ha hs,aH5 hb hr];exact run_equalIn_bool' w D t a b hu
  ·cases he
 |str=>
  simp only[eqC]at he;split at he
  ·rename_i a b;cases he;cases hs;cases hr;exact run_equalIn_string w D t a b hu
  ·cases he
def Cmp(w:World)(X:Nat->Prop)(E:Env)(n:Nat)(agg:Bool)(g f:Nat->SV)(x y:Value):Prop:=
 if agg=true then∃xs ys,x=.agg xs/\y=.agg ys/\xs.size=n/\ys.size=n/\(∀i<n,R w X E (g i) (xs.getD i undef))/\(∀i<n,R w X E (f i) (ys.getD i undef))
 else R w X E (g 0) x/\R w X E (f 0) y
theorem bt5{P:Program}{w X E}{t:TypeId}{m:Nat}{ag:Bool}(ht:tinf P t=some (m,ag)){n off:Nat}{g:Nat->SV}{cs:Array Value}(hs:cs.size=n)(hm:0<m)(hle:off+m<=n)
  (h:∀i<n,R w X E (g i) (cs.getD i undef)):
  ∃v,(Go.part t cs off).run P w=.ok v w/\(if ag=true then∃vs,v=.agg vs/\vs.size=m/\∀i<m,R w X E (g (off+i)) (vs.getD i undef)else R w X E (g off) v):=by
 obtain⟨h1,h2⟩:=ak7 ht w;cases ag with
 |true=>
  have hg:∀i<m,(cs.extract off (off+m)).getD i undef=cs.getD (off+i) undef:=λi hi=>by
   rw[lc,Array.getElem?_extract,ll (by omega),lc]
  refine⟨.agg (cs.extract off (off+m)),by simp[Go.part,h1,h2],?_⟩;rw[ll rfl];exact⟨_,rfl,by rw[Array.size_extract];omega,λi hi=>by rw[hg i hi];exact h _ (by omega)⟩
 |false=>
  have:cs[off]?=some (cs.getD off undef):=by rw[lc,lF (by omega)];rfl
  refine⟨cs.getD off undef,by simp only[Go.part,Sem.run_bind,h1,rk,this,lH,xn,Sem.run_pure],?_⟩;rw[lu (by simp)];exact h _ (by omega)
theorem bF9{P:Program}{t:TypeId}{m:Nat}{a:Bool}(h:tinf P t=some (m,a)):∃i d,P.info? t=some i/\P.underlying t=some d/\i.size=m/\a=(match d with|.struct _|.array _ _=>true|_=>false):=by
 unfold tinf at h;cases hi:P.info? t with
 |none=>simp[hi]at h
 |some i=>
  cases hd:P.underlying t with
  |none=>simp[hi,hd]at h
  |some d=>
   simp only[hi,hd,sk,Prod.mk.injEq]at h;exact⟨i,d,rfl,rfl,h.1,h.2.symm⟩
theorem cg6{P:Program}{w:World}{X:Nat->Prop}{E:Env}:∀(d:Nat)(t:TypeId)(ks:List CK),aR2 P d t=some ks->∀(m:Nat)(ag:Bool),tinf P t=some (m,ag)->m=ks.length->0<m->∀(D:Nat),d<=D->∀(g f:Nat->SV)(x y:Value)(b:Bool),
  Cmp w X E m ag g f x y->af3 g f ks 0=some b->(Op.equalIn D t x y).run P w=.ok b w:=by
 intro d;induction d with
 |zero=>intro t ks h;simp[aR2]at h
 |succ d ih=>
  intro t ks h m ag hti hm hpos D hD g f x y b hc he;obtain⟨D,rfl⟩:∃D',D=D'+1:=⟨D-1,by omega⟩
  obtain⟨i,dd,hi,hd,hsz,hag⟩:=bF9 hti;have sub:∀(t':TypeId)(ks':List CK)(m':Nat)(ag':Bool),aR2 P d t'=some ks'->tinf P t'=some (m',ag')->m'=ks'.length->0<m'->∀(n off:Nat)(xs ys:Array Value)(c:Bool),xs.size=n->ys.size=n->off+m'<=n->
    (∀i<n,R w X E (g i) (xs.getD i undef))->(∀i<n,R w X E (f i) (ys.getD i undef))->af3 g f ks' off=some c->
    ∃u v,(Go.part t' xs off).run P w=.ok u w/\(Go.part t' ys off).run P w=.ok v w/\(Op.equalIn D t' u v).run P w=.ok c w:=by
   intro t' ks' m' ag' hf' hti' hm' hpos' n off xs ys c hxs hys hle hx hy hcc;obtain⟨u,hu,hu2⟩:=bt5 (P:=P) hti' hxs hpos' hle hx;obtain⟨v,hv,hv2⟩:=bt5 (P:=P) hti' hys hpos' hle hy;refine⟨u,v,hu,hv,ih t' ks' hf' m' ag' hti' hm' hpos' D (by omega) (λj=>g (off+j)) (λj=>f (off+j)) u v c ?_ ?_⟩
   ·unfold Cmp;cases ag' with
    |true=>
     simp only[xj]at hu2 hv2⊢;obtain⟨us,rfl,h1,h2⟩:=hu2;obtain⟨vs,rfl,h3,h4⟩:=hv2;exact⟨us,vs,rfl,rfl,h1,h3,h2,h4⟩
    |false=>
     simp only[lH,xn]at hu2 hv2⊢;exact⟨hu2,hv2⟩
   ·rw[<-aE0];exact hcc
  simp only[aR2,hd]at h;have scal:∀(k:CK),b84 P t k->ks=[k]->ag=false->(Op.equalIn (D+1) t x y).run P w=.ok b w:=by
   intro k hk hks ha;subst hks;subst ha;unfold Cmp at hc;rw[lu (by simp)]at hc;simp only[af3]at he;cases hq:eqC k (g 0) (f 0)with
   |none=>rw[hq]at he;cases he
   |some c=>
    rw[hq]at he;simp only[sk,Bool.and_true]at he;subst he;exact bQ5 hc.1 hc.2 hq D hk
  cases dd with
  |bool=>cases h;exact scal .bool hd rfl hag
  |int k=>cases h;exact scal .int ⟨k,hd⟩ rfl hag
  |string=>cases h;exact scal .str hd rfl hag
  |array len e=>
   subst hag;unfold Cmp at hc;rw[ll rfl]at hc;obtain⟨xs,ys,rfl,rfl,hxs,hys,hx,hy⟩:=hc;simp only at h
   cases hf':aR2 P d e with
   |none=>rw[hf']at h;cases h
   |some ks'=>
    rw[hf']at h;cases hti':tinf P e with
    |none=>rw[hti']at h;cases h
    |some q=>
     obtain⟨m',ag'⟩:=q;rw[hti']at h;simp only at h
     obtain⟨⟨hm',hpos'⟩,rfl⟩:=aa0 h;obtain⟨i',dd',hi',_,hsz',_⟩:=bF9 hti';have as2:P.cellsOf e=m':=by unfold Program.cellsOf;rw[hi'];exact hsz'
     rw[run_equalIn_array w D xs ys hd hi',as2];have hlen:∀n,(rep ks' n).length=n*m':=by
      intro n;induction n with
      |zero=>simp[rep]
      |succ n ihn=>simp only[rep,lx,ihn,<-hm'];rw[lL];omega
     have key:∀(k j:Nat)(c:Bool),(j+k)*m'<=m->af3 g f (rep ks' k) (j*m')=some c->(Op.eqItems D e m' xs ys (List.range' j k)).run P w=.ok c w:=by
      intro k;induction k with
      |zero=>intro j c _ hc;simp only[rep,af3,sk]at hc;subst hc;simp[Op.eqItems]
      |succ k ihk=>
       intro j c hle hc;obtain⟨c1,c2,e1,e2,rfl⟩:=ao6 hc;have hle2:j*m'+m'<=m:=by
        have:(j+1)*m'<=(j+(k+1))*m':=lk _ (by omega)
        rw[lL]at this;omega
       obtain⟨u,v,p1,p2,p3⟩:=sub e ks' m' ag' hf' hti' hm' hpos' m (j*m') xs ys c1 hxs hys hle2 hx hy e1;have ih2:=ihk (j+1) c2 (by rw[show j+1+k=j+(k+1)by omega];exact hle) (by rw[lL,uD,hm'];rw[hm']at e2;exact e2);rw[List.range'_succ];simp only[Op.eqItems,Sem.run_bind,p1,p2,p3,rk,Sem.run_ite,ih2,Sem.run_pure];cases c1<;>simp
     rw[List.range_eq_range'];exact key len 0 b (by rw[lI,hm,hlen];exact lh _) (by rw[xz];exact he)
  |struct fs=>
   subst hag;unfold Cmp at hc;rw[ll rfl]at hc;obtain⟨xs,ys,rfl,rfl,hxs,hys,hx,hy⟩:=hc;simp only at h
   split at h
   ·cases h
   ·rename_i hst;have hfo:P.fieldsOf t=fs:=by unfold Program.fieldsOf;rw[hd]
    rw[run_equalIn_struct w D t xs ys (by rw[hfo];exact hd) (by simpa using hst),hfo];have key:∀(l:List Field)(off:Nat)(ks:List CK)(c:Bool),aY3 P (aR2 P d) l off=some ks->off+ks.length<=m->af3 g f ks off=some c->(Op.eqFields D xs ys l).run P w=.ok c w:=by
     intro l;induction l with
     |nil=>intro off ks c hfl _ hc;simp only[aY3,sk]at hfl;subst hfl;simp only[af3,sk]at hc;subst hc;simp[Op.eqFields]
     |cons fd l ihl=>
      intro off ks c hfl hle hc;simp only[aY3]at hfl;split at hfl
      case isFalse=>cases hfl
      rename_i hcond;obtain⟨hname,hoff⟩:=hcond;cases hf':aR2 P d fd.type with
      |none=>rw[hf']at hfl;cases hfl
      |some ks'=>
       rw[hf']at hfl;cases hti':tinf P fd.type with
       |none=>rw[hti']at hfl;cases hfl
       |some q=>
        obtain⟨m',ag'⟩:=q;rw[hti']at hfl;simp only at hfl
        split at hfl
        case isFalse=>cases hfl
        rename_i hmm;obtain⟨hm',h0⟩:=hmm;cases hr:aY3 P (aR2 P d) l (off+m')with
        |none=>rw[hr]at hfl;cases hfl
        |some r=>
         rw[hr]at hfl;cases hfl;obtain⟨c1,c2,e1,e2,rfl⟩:=ao6 hc;rw[lx]at hle
         ·obtain⟨u,v,p1,p2,p3⟩:=sub fd.type ks' m' ag' hf' hti' hm' h0 m off xs ys c1 hxs hys (by omega) hx hy e1;have ih2:=ihl (off+m') r c2 hr (by omega) (by rw[hm'];exact e2);rw[<-hoff]at p1 p2;simp only[Op.eqFields,ne_eq,hname,not_false_eq_true,xj,Sem.run_bind,p1,p2,p3,rk,Sem.run_ite,ih2,Sem.run_pure];cases c1<;>simp
    exact key fs.toList 0 ks b h (by rw[lI,hm];exact lh _) he
  |_=>simp at h
theorem ch3{P:Program}{t:TypeId}{ks:List CK}(h:aR2 P 8 t=some ks){m:Nat}(ht:tinf P t=some (m,true))(hm:m=ks.length)(hpos:0<m)(hg:P.eqGuardType P.depth t=false):EqOK P t ks:=by
 intro w X E g f xs ys b hx hy he hrx hry x y;refine⟨run_eqGuard_agg w .eql t x y xs ys hg,run_eqGuard_agg w .neq t x y xs ys hg,?_⟩;refine cg6 (X:=X) (E:=E) 8 t ks h m true ht hm hpos 10000 (by omega) g f _ _ b ?_ he;unfold Cmp;rw[ll rfl];exact⟨xs,ys,rfl,rfl,by omega,by omega,λi hi=>hrx i (by omega),λi hi=>hry i (by omega)⟩
theorem ac7{A B:Prop}(hb:B)(h:A=B:=by kernel_rfl):A:=h▸hb
def bU5(P:Program):List FSpec->Prop
 | []=>True
 |s::r=>aa5 P s/\bU5 P r
theorem av3{P:Program}:∀{l:List FSpec},bU5 P l->∀s∈l,aa5 P s
 | [],_,s,hs=>(xi hs).elim
 |t::r,h,s,hs=>by
  rcases xe.1 hs with rfl|hs
  ·exact h.1
  ·exact av3 h.2 s hs
def b25(P:Program):List (TypeId×List CK)->Prop
 | []=>True
 |e::r=>EqOK P e.1 e.2/\b25 P r
theorem all_eq{P:Program}:∀{l:List (TypeId×List CK)},b25 P l->∀t n,(t,n)∈l->EqOK P t n
 | [],_,t,n,hs=>(xi hs).elim
 |e::r,h,t,n,hs=>by
  rcases xe.1 hs with he|hs
  ·have:=h.1;rw[<-he]at this;exact this
  ·exact all_eq h.2 t n hs
theorem seW{P:Program}{specs:List FSpec}(ha:bU5 P specs){eqs:List (TypeId×List CK)}(he:b25 P eqs){f:FuncId}{fn:Func}(hf:P.funcs[f]?=some fn)
  {γ:Type}{dec:List SV->Option γ}{args:γ->List SV}{pre:γ->Prop}{res:γ->SV}(A:γ->Ann)
  (h:∀g,pre g->vc P specs eqs fn.ntmps 0 false (A g) (fn.body.getD .skip) (retK P fn (res g)) ⟨as7 0 (args g),[]⟩) (hm:P.follows .mixedOrders=true:=by kernel_rfl) (hb:fn.body.isSome=true:=by kernel_rfl) (hent:∀args w,(callFunc f args).run P w=.ok (.enter f args) w:=by intro _ _;kernel_rfl) (hl:∀g,Nat.ble (args g).length fn.ntmps=true:=by intro g;kernel_rfl):aa5 P (aa9 f dec args pre res):=by
 cases e:fn.body with
 |none=>rw[e]at hb;cases hb
 |some b=>
  rw[e]at h;exact aF0 (av3 ha) (all_eq he) hm hf e rfl hent A (λg=>lN (hl g)) h
theorem ssW{P:Program}{specs:List FSpec}(ha:bU5 P specs){f:FuncId}{fn:Func}(hf:P.funcs[f]?=some fn)
  {γ:Type}{dec:List SV->Option γ}{args:γ->List SV}{pre:γ->Prop}{res:γ->SV}(A:γ->Ann)
  (h:∀g,pre g->vc P specs [] fn.ntmps 0 false (A g) (fn.body.getD .skip) (retK P fn (res g)) ⟨as7 0 (args g),[]⟩) (hm:P.follows .mixedOrders=true:=by kernel_rfl) (hb:fn.body.isSome=true:=by kernel_rfl) (hent:∀args w,(callFunc f args).run P w=.ok (.enter f args) w:=by intro _ _;kernel_rfl) (hl:∀g,Nat.ble (args g).length fn.ntmps=true:=by intro g;kernel_rfl):aa5 P (aa9 f dec args pre res):=
 seW ha (eqs:=[]) trivial hf A h hm hb hent hl
def lst(l:List SV)(i:Nat):SV:=l.getD i .any
def intOf:SV->Int
 |.int _ n=>n
 |_=>0
def bj1:SV->Bool
 |.bool b=>b
 |.lit b=>b
 |_=>false
def A0:Ann:=⟨[],[]⟩
open Go.RowKit
def aU1:SV->Prop
 |.fn _ _ g=>∀i,aU1 (g i)
 |.fnb _ _ g=>∀i,aU1 (g i)
 |.agg _ g=>∀i,aU1 (g i)
 |.tup _ g=>∀i,aU1 (g i)
 |.sl _ _ g=>∀i j,aU1 (g i j)
 |.slN ..=>False
 |.ref _ g=>∀i,aU1 (g i)
 |.own ..=>False
 |.osl ..=>False
 |.ownAt ..=>False
 |.win ..=>False
 |.omap _=>False
 |.pin ..=>False
 |.part ..=>False
 |.slP ..=>False
 |.refP _=>False
 |.ifc _ g=>∀i,aU1 (g i)
 |_=>True
theorem aA0{p:Nat->Prop}(h:∀i,p i):∀n,allN n p
 |0=>trivial
 |n+1=>⟨aA0 h n,h n⟩
theorem SVle.refl:∀{s:SV}(H H':List SO),aU1 s->SVle H H' s s:=by
 intro s;induction s with
 |any=>intro H H' _;exact trivial
 |int k n=>intro H H' _;exact⟨⟨rfl⟩,⟨rfl⟩⟩
 |bool b=>intro H H' _;exact⟨rfl⟩
 |lit b=>intro H H' _;exact⟨rfl⟩
 |str b=>intro H H' _;exact⟨rfl⟩
 |nilfn=>intro H H' _;exact trivial
 |cap0=>intro H H' _;exact trivial
 |fn f n g ih=>intro H H' h;simp only[SVle,xj];exact⟨⟨trivial⟩,aA0 (λi=>ih i H H' (h i)) n⟩
 |fnb f n g ih=>intro H H' h;simp only[SVle,xj];exact⟨⟨trivial⟩,aA0 (λi=>ih i H H' (h i)) n⟩
 |agg n g ih=>intro H H' h;simp only[SVle,xj];exact aA0 (λi=>ih i H H' (h i)) n
 |tup n g ih=>intro H H' h;simp only[SVle,xj];exact aA0 (λi=>ih i H H' (h i)) n
 |sl len n g ih=>intro H H' h;simp only[SVle,xj];exact⟨⟨trivial⟩,λi _=>aA0 (λj=>ih i j [] [] (h i j)) n⟩
 |ref n g ih=>intro H H' h;simp only[SVle,lh,xj];exact aA0 (λi=>ih i [] [] (h i)) n
 |own k off=>intro H H' h;exact h.elim
 |osl k ver=>intro H H' h;exact h.elim
 |ownAt k ver i n off=>intro H H' h;exact h.elim
 |win k ver n lo len=>intro H H' h;exact h.elim
 |con v=>intro H H' _;exact⟨rfl⟩
 |pin=>intro H H' h;exact h.elim
 |part=>intro H H' h;exact h.elim
 |slP=>intro H H' h;exact h.elim
 |refP=>intro H H' h;exact h.elim
 |ifc T g ih=>intro H H' h;exact⟨⟨rfl⟩,ih 0 H H' (h 0)⟩
 |omap k=>intro H H' h;exact h.elim
 |nilsl=>intro H H' _;exact trivial
 |slN=>intro H H' h;exact h.elim
def aX5:List SV->Prop
 | []=>True
 |s::l=>aU1 s/\aX5 l
theorem az6:∀{l:List SV},aX5 l->aa9.leArgs l l
 | [],_=>trivial
 |_::_,h=>⟨SVle.refl [] [] h.1,az6 h.2⟩
theorem aP8:∀{l:List SV},aX5 l->∀i,aU1 (lst l i)
 | [],_,_=>trivial
 |_::_,h,0=>h.1
 |_::_,h,i+1=>aP8 h.2 i
def RL(w:World)(X:Nat->Prop):List SV->List Value->Prop
 | [],[]=>True
 |s::l,v::r=>R w X E0 s v/\RL w X l r
 |_,_=>False
theorem RL.len{w X}:∀{l:List SV}{r:List Value},RL w X l r->r.length=l.length
 | [],[],_=>rfl
 |_::_,_::_,h=>congrArg Nat.succ (RL.len h.2)
 | [],_::_,h=>h.elim
 |_::_,[],h=>h.elim
theorem RL.get{w X}:∀{l:List SV}{r:List Value},RL w X l r->∀i<l.length,R w X E0 (l.getD i .any) (r.getD i undef)
 | [],[],_,_,hi=>absurd hi (ln _)
 |_::_,_::_,h,0,_=>h.1
 |_::_,_::_,h,i+1,hi=>RL.get h.2 i (Nat.lt_of_succ_lt_succ hi)
 | [],_::_,h,_,_=>h.elim
 |_::_,[],h,_,_=>h.elim
theorem R_agg{w X}{l:List SV}{r:List Value}{n:Nat}(h:RL w X l r)(hn:r.length=n)(ho:∀v∈r,ab1 v):R w X E0 (.agg n (lst l)) (.agg r.toArray):=by
 have hl:=h.len;subst hn;refine .agg (by simp) (λi hi=>?_) (λi hi=>?_)
 ·rw[lc,xI,lw hi];exact ho _ (xv hi)
 ·have:=h.get i (by omega)
  rw[lc,xI,<-la];exact this
theorem cf4{Γ:World->Fr->Prop}{P:Program}{f:FuncId}{γ:Type}{dec:List SV->Option γ}{args:γ->List SV}{pre:γ->Prop}(h:bq3 Γ P (aa9 f dec args pre λ_=> .bool true))(g:γ)(hd:dec (args g)=some g)(hn:aX5 (args g))(hp:pre g)
  {vals:List Value}{w:World}(hR:RL w (λ_=>False) (args g) vals) (hΓ:Γ w (Fr.of λ_=>False)) (hpu:(args g).all (ac4 6)=true:=by rfl):Calls P f vals.toArray w λe w'=>e=.returned (.bool true)/\Below w.heap.size w w':=by
 have hrep:Rep w (Fr.of λ_=>False) [] E0 w:=⟨Bel.refl _ _,λb hb=>hb.elim,λk e he=>(nomatch he),λk e he=>(nomatch he),λk e he=>(nomatch he),λk e b he=>(nomatch he),λk k' e e' b he=>(nomatch he)⟩
 refine((h w (Fr.of λ_=>False) hΓ).2.2 (args g) [] 0 ⟨aa9.leArgs (args g) (args g)/\Aq (pre g),.bool true,.keep⟩ ?_ ⟨az6 hn,⟨hp⟩⟩ E0 w hrep (λso hso=>by cases hso) vals.toArray ?_).mono ?_
 ·simp only[aa9];rw[hd,hpu]
 ·refine⟨by rw[<-hR.len];simp,λi hi=>?_⟩;have:=(hR.get i hi).mono (X':=Xo (Fr.of λ_=>False) E0 []) (λ_ _ _=>rfl) (λb _ hb=>hb.elim id λ⟨k,e,he,_⟩=>(nomatch he)) (Env.le_refl _)
  rw[lc,xI,<-la];exact this
 ·rintro e w' ⟨v,rfl,E',_,_,_,hr,hv,_⟩;rw[aN0 hv];exact⟨rfl,hr.below.all⟩
theorem cs0{P:Program}{f:FuncId}{γ:Type}{dec:List SV->Option γ}{args:γ->List SV}{pre:γ->Prop}(h:aa5 P (aa9 f dec args pre λ_=> .bool true))(g:γ)(hd:dec (args g)=some g)(hn:aX5 (args g))(hp:pre g)
  {vals:List Value}{w:World}(hR:RL w (λ_=>False) (args g) vals) (hpu:(args g).all (ac4 6)=true:=by rfl):Calls P f vals.toArray w λe w'=>e=.returned (.bool true)/\Below w.heap.size w w':=
 cf4 (Γ:=topG) h.g g hd hn hp hR trivial hpu
theorem wf_u8{x:Int}(h:(Lit.int .u8 x).wf=true):0<=x/\x<=255:=by
 have:=h
 simp[Lit.wf,IntKind.min,IntKind.max,IntKind.signed,IntKind.bits]at this;omega
def AllP(p:Int->Prop):List Int->Prop
 | []=>True
 |x::r=>p x/\AllP p r
theorem AllP.mem{p:Int->Prop}:∀{l:List Int},AllP p l->∀x∈l,p x
 | [],_,x,hx=>(xi hx).elim
 |y::r,h,x,hx=>by
  rcases xe.1 hx with rfl|hx
  ·exact h.1
  ·exact h.2.mem x hx
def aj1:SV->Nat
 |.sl n _ _=>n
 |.slN n _ _=>n
 |_=>0
end Sx
namespace Sx
open Go.RowKit
theorem R_sl{α:Type}{c:α->List Value}{sz:Nat}{w:World}{X:Nat->Prop}{v:Value}{xs:List α}{g:Nat->Nat->SV}(hsz:0<sz)(h:Sl c sz w v xs)(hX:∀b,¬ X b)
  (hR:∀i j (hi:i<xs.length),j<sz->∃u,(c xs[i])[j]?=some u/\ab1 u/\R w X E0 (g i j) u):R w X E0 (.sl xs.length sz g) v:=by
 obtain⟨p,cap,rfl,h1,h2,h3⟩:=h;by_cases h0:xs=[]
 ·subst h0;exact .sl0
 rcases h3 with h3|⟨b,off,rfl,as2⟩
 ·exact absurd h3 h0
 have hpos:0<xs.length:=List.length_pos_iff.2 h0;obtain⟨u0,hu0,_⟩:=hR 0 0 hpos hsz;have hcell0:=(as2 0 0 hpos hsz).trans hu0;cases hb:w.heap[b]? with
 |none=>simp[World.cell?,hb]at hcell0
 |some o=>
  cases o<;>simp only[World.cell?,hb,reduceCtorEq]at hcell0<;>try(simp at hcell0;done)
  rename_i cc T fr;have hget:∀i j (hi:i<xs.length),j<sz->off+i*sz+j<cc.size/\∃u,cc.getD (off+i*sz+j) undef=u/\ab1 u/\R w X E0 (g i j) u:=by
   intro i j hi hj;obtain⟨u,hu1,hu2,hu3⟩:=hR i j hi hj;have h4:=(as2 i j hi hj).trans hu1;simp only[World.cell?,hb,Option.isSome_none,lH,xn]at h4;have hlt:off+i*sz+j<cc.size:=by
    refine lz λhc=>?_
    rw[xX (uM.1 hc)]at h4;cases h4
   refine⟨hlt,u,?_,hu2,hu3⟩;rw[lc,h4];rfl
  have hlast:=(hget (xs.length-1) (sz-1) (by omega) (by omega)).1;have e1:(xs.length-1)*sz+sz=xs.length*sz:=by
   obtain⟨m,hm⟩:∃m,xs.length=m+1:=⟨xs.length-1,by omega⟩
   rw[hm,Nat.add_sub_cancel,uq]
  refine .sl hb (hX b) (by omega) h1 (λi j hi hj=>?_) λi j hi hj=>?_
  ·obtain⟨_,u,hu,hu2,_⟩:=hget i j hi hj;rw[hu];exact hu2
  ·obtain⟨_,u,hu,_,hu3⟩:=hget i j hi hj;rw[hu];exact hu3
theorem aX9{P:Program}{w:World}{t:TypeId}{k:IntKind}(ht:P.underlying t=some (.int k)):∀(n:Nat)(cs:List Value),All2 (Leaf P w) (List.replicate n t) cs->
  (cs.map λv=>intOf (ofV v)).map (Value.int k)=cs/\(cs.map λv=>intOf (ofV v)).length=n/\∀x∈cs.map λv=>intOf (ofV v),(Lit.int k x).wf=true
 |0,cs,h=>by
  obtain rfl:=All2.bN2 h
  exact⟨rfl,rfl,λx hx=>absurd hx (by simp)⟩
 |n+1,cs,h=>by
  obtain⟨y,m,rfl,e1,l1⟩:=All2.cons_inv h;obtain⟨z,rfl,hw⟩:=a52 ht e1;obtain⟨h1,h2,h3⟩:=aX9 ht n m l1;refine⟨?_,by simp only[xQ,xU];rw[h2],λx hx=>?_⟩
  ·simp only[xQ];rw[h1];rfl
  ·simp only[xQ,xe]at hx;rcases hx with rfl|hx
   ·exact hw
   ·exact h3 x hx
theorem bO5{P:Program}{w:World}{T e t:TypeId}{v:Value}{k:IntKind}(n:Nat)(hu:P.underlying T=some (.slice e))(ht:P.underlying t=some (.int k))(hk:P.cellsOf e=n)(hn:0<n)
  (hl:leaves P 20 e=some (List.replicate n t)) (h:Leaf P w T v):
  ∃(len:Nat)(f:Nat->Nat->Int),(∀g:Nat->Nat->SV,(∀i j,j<n->g i j=.int k (f i j))->R w (λ_=>False) E0 (.sl len n g) v)/\(∀i j,i<len->j<n->(Lit.int k (f i j)).wf=true)/\len<=maxLen:=by
 obtain⟨xs,h3,h4,h5⟩:=bz5 (c:=λl:List Int=>l.map (Value.int k)) (mk:=λcs=>cs.map λv=>intOf (ofV v)) (ok:=λl=>l.length=n/\∀x∈l,(Lit.int k x).wf=true) hu hk hn hl (λcs hcs=>aX9 ht n cs hcs) h;have hx:∀i (hi:i<xs.length) j,j<n->∃hj:j<(xs[i]).length,(xs.getD i []).getD j 0=(xs[i])[j]:=λi hi j hj=>by
  have hl:=(h4 xs[i] (xv hi)).1;refine⟨by omega,?_⟩;have e1:xs.getD i []=xs[i]:=by rw[la,lw hi];rfl
  rw[e1,la,lw (by omega)];rfl
 refine⟨xs.length,λi j=>(xs.getD i []).getD j 0,λg hg=>R_sl hn h3 (λ_=>id) λi j hi hj=>?_,λi j hi hj=>?_,h5⟩
 ·obtain⟨hj',he⟩:=hx i hi j hj;refine⟨.int k (xs[i])[j],by simp[hj'],rfl,?_⟩;rw[hg i j hj];show R w _ E0 (.int k ((xs.getD i []).getD j 0)) _;rw[he];exact .int
 ·obtain⟨hj',he⟩:=hx i hi j hj;show(Lit.int k ((xs.getD i []).getD j 0)).wf=true;rw[he];exact(h4 xs[i] (xv hi)).2 _ (xv hj')
end Sx
namespace Szd
open Go.ChangeShapes Go.WideShapes Go.ChangeAt Go.RowKit Sx
def Szd(P:Program)(e:TypeId)(v:Value):Prop:=∀a len cap,v=.slice (some a) len cap->len*P.bytesOf e<=reachBytes
theorem bL0{H:Type}{enc:TypeId×Value->H}{P:Program}{w:World}{t e:TypeId}{v:Value}{d:DataW H}{ps:List MemPlace}(hu:P.underlying t=some (.slice e))
  (hd:DataW.Trod enc P w 0 (λ_=>true) true t v d ps) (hs:∀el sp,d=.slice el sp->(el.length+sp.length)*P.bytesOf e<=reachBytes):Szd P e v:=by
 intro a len cap hv;obtain⟨fuel,hf⟩:=hd;rcases DataW.trod_slice hu hf with⟨h1,_⟩|⟨a',len',cap',elems,rest,n,_,h2,h3,_,_,_,h4,_⟩
 ·rw[hv]at h1;have h1:[Value.slice (some a) len cap]=[.slice none 0 0]:=h1;cases h1
 ·rw[hv]at h2;have h2:[Value.slice (some a) len cap]=[.slice (some a') len' cap']:=h2;cases h2;have h5:=hs _ _ (congrArg Prod.fst h3);rw[lY,lY,h4]at h5;exact lU (lk _ (uQ _ _)) h5
theorem cb7{P:Program}{e:TypeId}{v:Value}(h:Szd P e v){w:World}{X:Nat->Prop}{E:Env}{len n:Nat}{g:Nat->Nat->SV}(hr:R w X E (.sl len n g) v):len*P.bytesOf e<=reachBytes:=by
 obtain⟨ad,cap,rfl⟩:=aH6 hr;cases ad with
 |some a=>exact h a len cap rfl
 |none=>
  cases hr;rw[xz];exact lB _
end Szd
end Go.Proofs.YtnhecfkpiojmhaaGreat
