import Derived.Test.YtnhecfkpiojmhaaGreatM4
set_option linter.all false
/- Part 5. -/
namespace Go.Proofs.YtnhecfkpiojmhaaGreat
namespace Sx
open Go.RowKit
inductive NP:Type
 |arg (i:Nat)
 |part (i j:Nat)
 |cell (o j:Nat)
 |hole (o:Nat)
def nameOf:SV->Option Nat
 |.own k _=>some k
 |.osl k _=>some k
 |.ownAt k _ _ _ _=>some k
 |.omap k=>some k
 |_=>none
def subS(j:Nat):SV->Option SV
 |.fn _ n g=>if j<n then some (g j)else none
 |.agg n g=>if j<n then some (g j)else none
 |.slP n g=>if j<n then some (g j)else none
 |_=>none
def nameAt(H:List SO)(args:List SV)(ks:List Nat):NP->Option Nat
 |.arg i=>if i<args.length then nameOf (args.getD i .any)else none
 |.part i j=>if i<args.length then match subS j (args.getD i .any)with
  |some s=>nameOf s
  |none=>none
  else none
 |.cell o j=>match ks[o]? with
  |some k=>match H.getD k .dead with
   |.cells n g _=>if j<n then nameOf (g j)else none
   |_=>none
  |none=>none
 |.hole o=>match ks[o]? with
  |some k=>match H.getD k .dead with
   |.deep _ _ _ _ _ _ _ _ _ ho=>match ho with
    |some q=>nameOf q.2
    |none=>none
   |_=>none
  |none=>none
def bg4(H:List SO)(ks:List Nat):NP->Prop
 |.hole o=>match ks[o]? with
  |some k=>match H.getD k .dead with
   |.deep _ len _ _ _ _ _ _ _ ho=>match ho with
    |some q=>Aq (q.1<len)
    |none=>True
   |_=>True
  |none=>True
 |_=>True
def bP2(H:List SO)(ks:List Nat):List NP->Prop
 | []=>True
 |p::r=>bg4 H ks p/\bP2 H ks r
def bn8:List NP->Bool
 | []=>false
 |.hole _::_=>true
 |_::r=>bn8 r
def cf9(os:List SO):NP->Prop
 |.hole o=>match os[o]? with
  |some so=>match so with
   |.deep _ len _ _ _ _ _ _ _ ho=>match ho with
    |some q=>Aq (q.1<len)
    |none=>True
   |_=>True
  |none=>True
 |_=>True
def bg3(os:List SO):List NP->Prop
 | []=>True
 |p::r=>cf9 os p/\bg3 os r
def aN4(os:List SO)(ps:List NP)(a:Prop):Prop:=match bn8 ps with
 |true=>a/\bg3 os ps
 |false=>a
theorem as1{os:List SO}:∀{ps:List NP},bn8 ps=false->bg3 os ps
 | [],_=>trivial
 |.arg _::r,h=>⟨trivial,as1 (ps:=r) h⟩
 |.part _ _::r,h=>⟨trivial,as1 (ps:=r) h⟩
 |.cell _ _::r,h=>⟨trivial,as1 (ps:=r) h⟩
 |.hole _::r,h=>by cases h
theorem aA7{os:List SO}{ps:List NP}{a:Prop}(h:aN4 os ps a):a/\bg3 os ps:=by
 unfold aN4 at h;split at h
 ·exact h
 ·rename_i hn;exact⟨h,as1 hn⟩
theorem bZ7{H:List SO}{ks:List Nat}{p:NP}(h:cf9 (ks.map λk=>H.getD k .dead) p):bg4 H ks p:=by
 cases p with
 |hole o=>
  simp only[cf9,lW]at h;simp only[bg4];cases hk:ks[o]? with
  |none=>trivial
  |some k=>
   rw[hk]at h;simp only[lD]at h;cases hso:H.getD k .dead with
   |deep ver len n c m p g T T' ho=>
    rw[hso]at h;simp only[hso];cases ho with
    |none=>trivial
    |some q=>exact h
   |_=>simp only[hso]
 |_=>trivial
theorem aQ7{H:List SO}{ks:List Nat}:∀{ps:List NP},bg3 (ks.map λk=>H.getD k .dead) ps->bP2 H ks ps
 | [],_=>trivial
 |p::r,h=>⟨bZ7 h.1,aQ7 h.2⟩
def am8(H:List SO)(args:List SV):List NP->List Nat->Option (List Nat)
 | [],ks=>some ks
 |p::r,ks=>match nameAt H args ks p with
  |some k=>am8 H args r (ks++[k])
  |none=>none
def posOf:List Nat->Nat->Option Nat
 | [],_=>none
 |a::r,k=>match Nat.beq a k with
  |true=>some 0
  |false=>match posOf r k with
   |some i=>some (i+1)
   |none=>none
def ay1:List Nat->Bool
 | []=>true
 |a::r=>(posOf r a).isNone&&ay1 r
theorem af8:∀{ks:List Nat}{k i:Nat},posOf ks k=some i->ks[i]?=some k
 | [],k,i,h=>by cases h
 |a::r,k,i,h=>by
  simp only[posOf]at h;split at h
  ·rename_i hb;cases h;rw[lK hb];rfl
  ·split at h
   ·rename_i j hj;cases h;rw[List.getElem?_cons_succ];exact af8 hj
   ·cases h
theorem aF6:∀{ks:List Nat}{k:Nat},posOf ks k=none->k ∉ ks
 | [],k,_=>xi
 |a::r,k,h=>by
  simp only[posOf]at h;split at h
  ·cases h
  ·rename_i hb;split at h
   ·cases h
   ·rename_i hr;intro hm;rcases xe.1 hm with rfl|hm
    ·rw[Nat.beq_refl]at hb;cases hb
    ·exact aF6 hr hm
theorem bA4{ks:List Nat}{k:Nat}(h:k∈ks):∃i,posOf ks k=some i:=by
 cases hp:posOf ks k with
 |none=>exact absurd h (aF6 hp)
 |some i=>exact⟨i,rfl⟩
theorem aC0{ks:List Nat}{k i:Nat}(h:posOf ks k=some i):k∈ks:=xm (af8 h)
theorem ar6:∀{ks:List Nat}{k i:Nat},ay1 ks=true->ks[i]?=some k->posOf ks k=some i
 | [],k,i,_,h=>by cases h
 |a::r,k,0,_,h=>by
  simp only[uC,sk]at h;subst h;simp only[posOf,Nat.beq_refl]
 |a::r,k,i+1,hn,h=>by
  simp only[ay1,lr]at hn;have h':r[i]?=some k:=h;have hne:Nat.beq a k=false:=by
   cases hb:Nat.beq a k with
   |false=>rfl
   |true=>
    have:=lK hb
    subst this;obtain⟨j,hj⟩:=bA4 (xm h');rw[hj]at hn;simp at hn
  simp only[posOf,hne,ar6 hn.2 h']
theorem bK9{ks:List Nat}{k k' i:Nat}(h:posOf ks k=some i)(h':posOf ks k'=some i):k=k':=by
 have h1:=af8 h;rw[af8 h']at h1;exact(sj h1).symm
def verO:SO->Nat
 |.row v ..=>v
 |.srow v ..=>v
 |.deep v ..=>v
 |_=>0
def aq5:SO->Bool
 |.dead=>false
 |.cus _=>false
 |_=>true
def sml(os:List SO)(ks:List Nat):SV->SV
 |.own k off=>match posOf ks k with
  |some i=> .own i off
  |none=> .any
 |.osl k ver=>match posOf ks k with
  |some i=>match Nat.beq ver (verO (os.getD i .dead))with
   |true=> .osl i 0
   |false=> .any
  |none=> .any
 |.ownAt k ver a n off=>match posOf ks k with
  |some i=>match Nat.beq ver (verO (os.getD i .dead))with
   |true=> .ownAt i 0 a n off
   |false=> .any
  |none=> .any
 |.pin ..=> .any
 |.part ..=> .any
 |.omap k=>match posOf ks k with
  |some i=>match Nat.beq (verO (os.getD i .dead)) 0 with
   |true=> .omap i
   |false=> .any
  |none=> .any
 |.win k ver n lo len=>match posOf ks k with
  |some i=>match Nat.beq ver (verO (os.getD i .dead))with
   |true=> .win i 0 n lo len
   |false=> .any
  |none=> .any
 |.agg n g=> .agg n (λi=>sml os ks (g i))
 |.tup n g=> .tup n (λi=>sml os ks (g i))
 |.fn f n g=> .fn f n (λi=>sml os ks (g i))
 |.fnb f n g=> .fnb f n (λi=>sml os ks (g i))
 |.slP n g=> .slP n (λi=>sml os ks (g i))
 |.refP g=> .refP (λi=>sml os ks (g i))
 |.ifc T g=> .ifc T (λi=>sml os ks (g i))
 |s=>s
def smlO(os:List SO)(ks:List Nat):SO->SO
 |.cells n g T=> .cells n (λi=>sml os ks (g i)) T
 |.row _ len n g T=> .row 0 len n g T
 |.srow _ len n g=> .srow 0 len n g
 |.deep _ len n c m p g T T' ho=> .deep 0 len n c m p g T T' (bC3 (sml os ks) ho)
 |.mps kd has c m p T' ho=> .mps kd has c m p T' (aQ8 (sml os ks) ho)
 |s=>s
def big(os:List SO)(ks:List Nat):SV->SV
 |.own i off=>match ks[i]? with
  |some k=> .own k off
  |none=> .any
 |.osl i ver=>match ks[i]? with
  |some k=> .osl k (verO (os.getD i .dead)+ver)
  |none=> .any
 |.ownAt i ver a n off=>match ks[i]? with
  |some k=> .ownAt k (verO (os.getD i .dead)+ver) a n off
  |none=> .any
 |.pin ..=> .any
 |.part ..=> .any
 |.omap i=>match ks[i]? with
  |some k=> .omap k
  |none=> .any
 |.win i ver n lo len=>match ks[i]? with
  |some k=> .win k (verO (os.getD i .dead)+ver) n lo len
  |none=> .any
 |.agg n g=> .agg n (λi=>big os ks (g i))
 |.tup n g=> .tup n (λi=>big os ks (g i))
 |.fn f n g=> .fn f n (λi=>big os ks (g i))
 |.fnb f n g=> .fnb f n (λi=>big os ks (g i))
 |.slP n g=> .slP n (λi=>big os ks (g i))
 |.refP g=> .refP (λi=>big os ks (g i))
 |.ifc T g=> .ifc T (λi=>big os ks (g i))
 |s=>s
def bigO(os:List SO)(ks:List Nat)(v0:Nat):SO->SO
 |.cells n g T=> .cells n (λi=>big os ks (g i)) T
 |.row ver len n g T=> .row (v0+ver) len n g T
 |.srow ver len n g=> .srow (v0+ver) len n g
 |.deep ver len n c m p g T T' ho=> .deep (v0+ver) len n c m p g T T' (bC3 (big os ks) ho)
 |.mps kd has c m p T' ho=> .mps kd has c m p T' (aQ8 (big os ks) ho)
 |s=>s
def ai6(os:List SO)(ks:List Nat)(post:List SO):List Nat->Nat->List (Nat×SO)
 | [],_=>[]
 |k::r,i=>(k,bigO os ks (verO (os.getD i .dead)) (post.getD i .dead))::ai6 os ks post r (i+1)
theorem aT1{os:List SO}{ks:List Nat}{post:List SO}:∀(r:List Nat)(i:Nat)(H0:List SO),ay1 r=true->(∀k∈r,k<H0.length)->
  (ad5 H0 (ai6 os ks post r i)).length=H0.length/\∀k,(ad5 H0 (ai6 os ks post r i)).getD k .dead=match posOf r k with
   |some j=>bigO os ks (verO (os.getD (i+j) .dead)) (post.getD (i+j) .dead)
   |none=>H0.getD k .dead
 | [],i,H0,_,_=>⟨rfl,λ_=>rfl⟩
 |a::r,i,H0,hn,hk=>by
  simp only[ay1,lr]at hn;obtain⟨h1,h2⟩:=aT1 (post:=post) r (i+1) (H0.set a (bigO os ks (verO (os.getD i .dead)) (post.getD i .dead))) hn.2 (λk hm=>by rw[um];exact hk k (lS _ hm));have e:ad5 H0 (ai6 os ks post (a::r) i)=ad5 (H0.set a (bigO os ks (verO (os.getD i .dead)) (post.getD i .dead))) (ai6 os ks post r (i+1)):=rfl;rw[e];refine⟨by rw[h1,um],λk=>?_⟩;rw[h2 k];simp only[posOf];cases hb:Nat.beq a k with
  |true=>
   have:=lK hb
   subst this;have hr:posOf r a=none:=by simpa using hn.1
   rw[hr];simp only[lV];exact ac3 (hk a lP)
  |false=>
   have hne:k≠a:=λhc=>by subst hc;rw[Nat.beq_refl]at hb;cases hb
   cases hr:posOf r k with
   |some j=>simp only;rw[show i+1+j=i+(j+1)by omega]
   |none=>simp only;exact aa3 hne
def smlE(E:Env)(ks:List Nat):Env:=λi=>match ks[i]? with
 |some k=>match E k with
  |some (.blk b)=>some (.blk b)
  |some (.slc _ v us)=>some (.slc 0 v us)
  |none=>none
 |none=>none
theorem a13{E:Env}{ks:List Nat}{k i b:Nat}(h:posOf ks k=some i)(he:E k=some (.blk b)):smlE E ks i=some (.blk b):=by
 simp only[smlE,af8 h,he]
theorem aw3{E:Env}{ks:List Nat}{k i ver:Nat}{v:Value}{us:Nat->Option Nat}(h:posOf ks k=some i)(he:E k=some (.slc ver v us)):smlE E ks i=some (.slc 0 v us):=by
 simp only[smlE,af8 h,he]
theorem an6{E:Env}{ks:List Nat}{i:Nat}{e:EI}(h:smlE E ks i=some e):∃k,ks[i]?=some k/\((∃b,E k=some (.blk b)/\e=.blk b)\/∃ver v us,E k=some (.slc ver v us)/\e=.slc 0 v us):=by
 simp only[smlE]at h;split at h
 ·rename_i k hk;split at h
  ·rename_i b hb;cases h;exact⟨k,hk,.inl ⟨b,hb,rfl⟩⟩
  ·rename_i ver v us hv;cases h;exact⟨k,hk,.inr ⟨ver,v,us,hv,rfl⟩⟩
  ·cases h
 ·cases h
def cj5(os:List SO)(E:Env)(ks:List Nat):Prop:=∀i k,ks[i]?=some k->∀ver v us,E k=some (.slc ver v us)->verO (os.getD i .dead)=ver
theorem cu4{w:World}{X X':Nat->Prop}(hx:∀b,X' b->X b){E E':Env}{len n:Nat}{g:Nat->Nat->SV}{v:Value}(h:R w X E (.slN len n g) v):R w X' E' (.slN len n g) v:=by
 cases h with
 |slN hr=>
  refine .slN ?_;cases hr with
  |sl0=>exact .sl0
  |sl hb hX hc hl ho hr=>exact .sl hb (λhc=>hX (hx _ hc)) hc hl ho λi j hi hj=>(hr i j hi hj).mono (λ_ _ _=>rfl) (λb _ hb=>hx b hb) (Env.le_refl _)
theorem MpsOK.over{w X X' E E' us kd has c m p T' ho es}(d:MpsOK w X E us kd has c m p T' ho es)(hx:∀b,X' b->X b)(f:SV->SV)(hf:∀s u,R w X E s u->R w X' E' (f s) u):MpsOK w X' E' us kd has c m p T' (aQ8 f ho) es:=by
 have weak:∀{s:SV}{v:Value},R w X E0 s v->R w X' E0 s v:=λh=>h.mono (λ_ _ _=>rfl) (λb _ hb=>hx b hb) (Env.le_refl _)
 refine⟨d.map,λy e he hke hh=>?_,d.gone,λhy sv fl hho=>?_,λy y' b q1 q2=>d.inj y y' b (by rwa[ae7]at q1) (by rwa[ae7]at q2)⟩
 ·rw[ae7]at hh;obtain⟨q1,ys,q2,q3⟩:=d.inn y e he hke hh;exact⟨q1,ys,q2,λi' j hi' hj=>⟨(q3 i' j hi' hj).1,weak (q3 i' j hi' hj).2⟩⟩
 ·cases ho with
  |none=>cases hho
  |some q=>
   cases hho;obtain⟨g1,g2,g3⟩:=d.out q.1 q.2.1 q.2.2 rfl;exact⟨g1,λe he hke=>hf _ _ (g2 e he hke),λhz=>hf _ _ (g3 hz)⟩
theorem b21.over{w X X' kk tot has val es}(d:b21 w X kk tot has val es)(hx:∀b,X' b->X b):b21 w X' kk tot has val es:=by
 have weak:∀{s:SV}{v:Value},R w X E0 s v->R w X' E0 s v:=λh=>h.mono (λ_ _ _=>rfl) (λb _ hb=>hx b hb) (Env.le_refl _)
 exact⟨d.1,λl e hl he hk=>weak (d.2.1 l e hl he hk),λht l hl hh=>weak (d.2.2 ht l hl hh)⟩
theorem bq5{w X E ver b us}{so:SO}(h:EIok w X E (.slc ver (.map (some b)) us) so)(ha:aq5 so=true):ver=0:=by
 cases so with
 |dead=>cases ha
 |cells=>exact h.elim
 |scells=>exact h.elim
 |row=>obtain⟨_,xs,ho,_⟩:=h;rcases ho with⟨a,h1,_⟩|⟨b',oo,cap,cur,h1,_⟩<;>cases h1
 |srow=>obtain⟨_,hr⟩:=h;cases hr
 |deep=>obtain⟨_,xs,d⟩:=h;rcases d.own with⟨a,h1,_⟩|⟨b',oo,cap,cur,h1,_⟩<;>cases h1
 |mpi=>exact h.1
 |mps=>exact h.1
 |cus=>cases ha
theorem bj7{w:World}{X X':Nat->Prop}(hx:∀b,X' b->X b){os:List SO}{ks:List Nat}{E:Env}(hv:cj5 os E ks){s:SV}{v:Value}(h:R w X E s v):R w X' (smlE E ks) (sml os ks s) v:=by
 induction s generalizing v with
 |any=>exact .any
 |int=>cases h;exact .int
 |bool=>cases h;exact .bool
 |lit=>cases h;exact .lit
 |str=>cases h;exact .str
 |nilfn=>cases h;exact .nilfn
 |cap0=>cases h;exact .cap0
 |fn f n g ih=>cases h with|fn hs hr=>exact .fn hs λi hi=>ih i (hr i hi)
 |fnb f n g ih=>cases h with|fnb hs hr=>exact .fnb hs λi hi=>ih i (hr i hi)
 |agg n g ih=>cases h with|agg hs ho hr=>exact .agg hs ho λi hi=>ih i (hr i hi)
 |tup n g ih=>cases h with|tup hs hr=>exact .tup hs λi hi=>ih i (hr i hi)
 |sl len n g ih=>
  cases h with
  |sl0=>exact .sl0
  |sl hb hX hc hl ho hr=>exact .sl hb (λhc=>hX (hx _ hc)) hc hl ho λi j hi hj=>(hr i j hi hj).mono (λ_ _ _=>rfl) (λb _ hb=>hx b hb) (Env.le_refl _)
 |ref n g ih=>cases h with|ref hb hX hc ho hr=>exact .ref hb (λhc=>hX (hx _ hc)) hc ho λj hj=>(hr j hj).mono (λ_ _ _=>rfl) (λb _ hb=>hx b hb) (Env.le_refl _)
 |own k off=>
  cases h with
  |own he=>
   simp only[sml];split
   ·rename_i i hi;exact .own (a13 hi he)
   ·exact .any
 |osl k ver=>
  simp only[sml];split
  ·rename_i i hi;split
   ·rename_i hb;have hbb:=lK hb;cases h with
    |osl he hs=>exact .osl (aw3 hi he) hs
    |oslOld he hl hs=>
     have:=hv i k (af8 hi) _ _ _ he
     omega
   ·exact .any
  ·exact .any
 |ownAt k ver a n off=>
  simp only[sml];split
  ·rename_i i hi;split
   ·rename_i hb;have hbb:=lK hb;cases h with
    |ownAt he=>exact .ownAt (aw3 hi he)
    |ownAtOld he hl hs=>
     have:=hv i k (af8 hi) _ _ _ he
     omega
   ·exact .any
  ·exact .any
 |con=>cases h;exact .con
 |pin=>exact .any
 |part=>exact .any
 |slP n g ih=>cases h with|slP hb hX hc hl ho hr=>exact .slP hb (λhc=>hX (hx _ hc)) hc hl ho λi hi=>ih i (hr i hi)
 |refP g ih=>cases h with|refP hb hX hc ho hr=>exact .refP hb (λhc=>hX (hx _ hc)) hc ho (ih 0 hr)
 |ifc T g ih=>cases h with|ifc ho hr=>exact .ifc ho (ih 0 hr)
 |omap k=>
  simp only[sml];split
  ·rename_i i hi;split
   ·rename_i hb;have hbb:=lK hb;cases h with
    |omap he=>exact .omap (aw3 hi he)
    |omapOld he hl=>
     have:=hv i k (af8 hi) _ _ _ he
     omega
   ·exact .any
  ·exact .any
 |nilsl=>cases h;exact .nilsl
 |slN=>exact cu4 hx h
 |win k ver n lo len=>
  simp only[sml];split
  ·rename_i i hi;split
   ·rename_i hb;have hbb:=lK hb;cases h with
    |win he hl ha h0=>exact .win (aw3 hi he) hl ha h0
    |winOld he hl hs=>
     have:=hv i k (af8 hi) _ _ _ he
     omega
   ·exact .any
  ·exact .any
theorem aV8{w:World}{X X':Nat->Prop}(hx:∀b,X' b->X b){os:List SO}{ks:List Nat}{Es E':Env}
  (h1:∀i k b,ks[i]?=some k->Es i=some (.blk b)->E' k=some (.blk b)) (h2:∀i k ver v us,ks[i]?=some k->Es i=some (.slc ver v us)->E' k=some (.slc (verO (os.getD i .dead)+ver) v us))
  {s:SV}{v:Value}(h:R w X Es s v):R w X' E' (big os ks s) v:=by
 induction s generalizing v with
 |any=>exact .any
 |int=>cases h;exact .int
 |bool=>cases h;exact .bool
 |lit=>cases h;exact .lit
 |str=>cases h;exact .str
 |nilfn=>cases h;exact .nilfn
 |cap0=>cases h;exact .cap0
 |fn f n g ih=>cases h with|fn hs hr=>exact .fn hs λi hi=>ih i (hr i hi)
 |fnb f n g ih=>cases h with|fnb hs hr=>exact .fnb hs λi hi=>ih i (hr i hi)
 |agg n g ih=>cases h with|agg hs ho hr=>exact .agg hs ho λi hi=>ih i (hr i hi)
 |tup n g ih=>cases h with|tup hs hr=>exact .tup hs λi hi=>ih i (hr i hi)
 |sl len n g ih=>
  cases h with
  |sl0=>exact .sl0
  |sl hb hX hc hl ho hr=>exact .sl hb (λhc=>hX (hx _ hc)) hc hl ho λi j hi hj=>(hr i j hi hj).mono (λ_ _ _=>rfl) (λb _ hb=>hx b hb) (Env.le_refl _)
 |ref n g ih=>cases h with|ref hb hX hc ho hr=>exact .ref hb (λhc=>hX (hx _ hc)) hc ho λj hj=>(hr j hj).mono (λ_ _ _=>rfl) (λb _ hb=>hx b hb) (Env.le_refl _)
 |own i off=>
  cases h with
  |own he=>
   simp only[big];split
   ·rename_i k hk;exact .own (h1 _ _ _ hk he)
   ·exact .any
 |osl i ver=>
  simp only[big];split
  ·rename_i k hk;cases h with
   |osl he hs=>exact .osl (h2 _ _ _ _ _ hk he) hs
   |oslOld he hl hs=>exact .oslOld (h2 _ _ _ _ _ hk he) (by omega) hs
  ·exact .any
 |ownAt i ver a n off=>
  simp only[big];split
  ·rename_i k hk;cases h with
   |ownAt he=>exact .ownAt (h2 _ _ _ _ _ hk he)
   |ownAtOld he hl hs=>exact .ownAtOld (h2 _ _ _ _ _ hk he) (by omega) hs
  ·exact .any
 |con=>cases h;exact .con
 |pin=>exact .any
 |part=>exact .any
 |slP n g ih=>cases h with|slP hb hX hc hl ho hr=>exact .slP hb (λhc=>hX (hx _ hc)) hc hl ho λi hi=>ih i (hr i hi)
 |refP g ih=>cases h with|refP hb hX hc ho hr=>exact .refP hb (λhc=>hX (hx _ hc)) hc ho (ih 0 hr)
 |ifc T g ih=>cases h with|ifc ho hr=>exact .ifc ho (ih 0 hr)
 |omap i=>
  simp only[big];split
  ·rename_i k hk;cases h with
   |omap he=>
    have:=h2 _ _ _ _ _ hk he
    rw[lV]at this;cases hz:verO (os.getD i .dead)with
    |zero=>rw[hz]at this;exact .omap this
    |succ n=>rw[hz]at this;exact .omapOld this (xF n)
   |omapOld he hl=>exact .omapOld (h2 _ _ _ _ _ hk he) (by omega)
  ·exact .any
 |nilsl=>cases h;exact .nilsl
 |slN=>exact cu4 hx h
 |win i ver n lo len=>
  simp only[big];split
  ·rename_i k hk;cases h with
   |win he hl ha h0=>exact .win (h2 _ _ _ _ _ hk he) hl ha h0
   |winOld he hl hs=>exact .winOld (h2 _ _ _ _ _ hk he) (by omega) hs
  ·exact .any
def aa4(H:List SO)(ks:List Nat):List SO:=ks.map λk=>H.getD k .dead
theorem bA9{H:List SO}{ks:List Nat}{i k:Nat}(h:ks[i]?=some k):(aa4 H ks).getD i .dead=H.getD k .dead:=by
 rw[aa4,la,lW,h];rfl
theorem Rep.aZ3{w0 X0 H E w}(h:Rep w0 X0 H E w){ks:List Nat}(ha:(aa4 H ks).all aq5=true):cj5 (aa4 H ks) E ks:=by
 intro i k hk ver v us he;have hok:=h.ok k _ he;rw[bA9 hk];have hal:aq5 (H.getD k .dead)=true:=xd.1 ha _ (lX.2 ⟨k,xm hk,rfl⟩);generalize H.getD k .dead=so at *
 cases so with
 |dead=>cases hal
 |cells=>exact hok.elim
 |scells=>exact hok.elim
 |row=>exact hok.1.symm
 |srow=>exact hok.1.symm
 |deep=>exact hok.1.symm
 |mpi=>exact hok.1.symm
 |mps=>exact hok.1.symm
 |cus=>cases hal
theorem ai7{w X E s v k}(h:R w X E s v)(hn:nameOf s=some k):E k≠none:=by
 cases h<;>simp only[nameOf,reduceCtorEq,sk]at hn
 all_goals (subst hn;rename_i he;first|(rw[he];simp;done)|skip)
 all_goals (intro hc;simp_all)
theorem bf1{w0 X0 H E w}(h:Rep w0 X0 H E w){args:List SV}{vals:Array Value}(ha:ax8 w (Xo X0 E H) E args vals){ks:List Nat}(hk:∀k∈ks,E k≠none){p:NP}(hp:bg4 H ks p){k:Nat}(hn:nameAt H args ks p=some k):E k≠none:=by
 cases p with
 |arg i=>
  simp only[nameAt]at hn;obtain⟨hi,hn⟩:=aC6 hn;exact ai7 (ha.2 i hi) hn
 |part i j=>
  simp only[nameAt]at hn;obtain⟨hi,hn⟩:=aC6 hn;have hr:=ha.2 i hi;generalize args.getD i .any=s at hr hn;generalize vals.getD i undef=v at hr;cases hr<;>simp only[subS,reduceCtorEq]at hn
  ·rename_i n g vs hs hr;by_cases hj:j<n
   ·rw[ll hj]at hn;exact ai7 (hr j hj) hn
   ·rw[lu hj]at hn;cases hn
  ·rename_i n g vs hs ho hr;by_cases hj:j<n
   ·rw[ll hj]at hn;exact ai7 (hr j hj) hn
   ·rw[lu hj]at hn;cases hn
  ·rename_i n g b o cap c T fr hb hX hc hl ho hr;by_cases hj:j<n
   ·rw[ll hj]at hn;exact ai7 (hr j hj) hn
   ·rw[lu hj]at hn;cases hn
 |cell o j=>
  simp only[nameAt]at hn;split at hn
  case h_2=>cases hn
  rename_i k0 hk0;have hkn:=hk k0 (xm hk0);split at hn
  case h_2=>cases hn
  rename_i n g T hso;obtain⟨hj,hn⟩:=aC6 hn;cases he:E k0 with
  |none=>exact absurd he hkn
  |some e=>
   have hok:=h.ok k0 e he;rw[hso]at hok;cases e with
   |slc=>exact hok.elim
   |blk b=>
    obtain⟨vs,_,_,h3⟩:=hok;exact ai7 (h3 j hj).2 hn
 |hole o=>
  simp only[nameAt]at hn;split at hn
  case h_2=>cases hn
  rename_i k0 hk0;have hkn:=hk k0 (xm hk0);split at hn
  case h_2=>cases hn
  rename_i ver len n c m p g T T' ho hso;split at hn
  case h_2=>cases hn
  rename_i q;simp only[bg4,hk0,hso]at hp;cases he:E k0 with
  |none=>exact absurd he hkn
  |some e=>
   have hok:=h.ok k0 e he;rw[hso]at hok;cases e with
   |blk b=>exact hok.elim
   |slc ver' v us=>
    obtain⟨_,xs,d⟩:=hok;exact ai7 (d.out q.1 q.2 hp.out (by unfold hoAt;simp)).2 hn
theorem aQ1{H:List SO}{args:List SV}:∀(ps:List NP)(ks ks':List Nat),am8 H args ps ks=some ks'->∀(o k:Nat),ks[o]?=some k->ks'[o]?=some k
 | [],ks,ks',hn,o,k,h=>by simp only[am8,sk]at hn;subst hn;exact h
 |p::r,ks,ks',hn,o,k,h=>by
  simp only[am8]at hn;split at hn
  case h_2=>cases hn
  exact aQ1 r _ ks' hn o k (by rw[xh (lT.1 h).1];exact h)
theorem bP3{H:List SO}{ks ks':List Nat}{p:NP}(h:∀(o k:Nat),ks[o]?=some k->ks'[o]?=some k)(hp:bg4 H ks' p):bg4 H ks p:=by
 cases p with
 |hole o=>
  simp only[bg4]at hp⊢;cases hk:ks[o]? with
  |none=>trivial
  |some k=>rw[h o k hk]at hp;exact hp
 |_=>trivial
theorem ar7{w0 X0 H E w}(h:Rep w0 X0 H E w){args:List SV}{vals:Array Value}(ha:ax8 w (Xo X0 E H) E args vals):∀(ps:List NP)(ks ks':List Nat),(∀k∈ks,E k≠none)->bP2 H ks' ps->am8 H args ps ks=some ks'->(∀k∈ks',E k≠none)/\ks'.length=ks.length+ps.length
 | [],ks,ks',hk,_,hn=>by simp only[am8,sk]at hn;subst hn;exact⟨hk,rfl⟩
 |p::r,ks,ks',hk,hq,hn=>by
  simp only[am8]at hn;split at hn
  case h_2=>cases hn
  rename_i k hk1;obtain⟨h1,h2⟩:=ar7 h ha r (ks++[k]) ks' (λk' hm=>by
   rcases ug.1 hm with hm|hm
   ·exact hk k' hm
   ·rw[xy.1 hm];exact bf1 h ha hk (bP3 (λo k' h'=>aQ1 r _ ks' hn o k' (by rw[xh (lT.1 h').1];exact h')) hq.1) hk1) hq.2 hn
  exact⟨h1,by rw[h2];simp;omega⟩
theorem bB3{H HF:List SO}(he:Ext H HF){args:List SV}{ks:List Nat}{p:NP}{k:Nat}(hn:nameAt H args ks p=some k):nameAt HF args ks p=some k:=by
 cases p with
 |arg=>exact hn
 |part=>exact hn
 |cell o j=>
  simp only[nameAt]at hn⊢;split at hn
  case h_2=>cases hn
  rename_i k0 hk0;split at hn
  case h_2=>cases hn
  rename_i n g T hso;have:HF.getD k0 .dead=H.getD k0 .dead:=he k0 (by rw[hso];simp)
  simp only[this,hso];exact hn
 |hole o=>
  simp only[nameAt]at hn⊢;split at hn
  case h_2=>cases hn
  rename_i k0 hk0;split at hn
  case h_2=>cases hn
  rename_i hso;have:HF.getD k0 .dead=H.getD k0 .dead:=he k0 (by rw[hso];simp)
  simp only[this,hso];exact hn
theorem az2{H HF:List SO}(he:Ext H HF){args:List SV}:∀(ps:List NP)(ks ks':List Nat),am8 H args ps ks=some ks'->am8 HF args ps ks=some ks'
 | [],ks,ks',hn=>hn
 |p::r,ks,ks',hn=>by
  simp only[am8]at hn⊢;split at hn
  case h_2=>cases hn
  rename_i k hk1;rw[bB3 he hk1];exact az2 he r _ ks' hn
theorem aX3{H HF:List SO}(he:Ext H HF){ks:List Nat}(ha:(aa4 H ks).all aq5=true):aa4 HF ks=aa4 H ks:=by
 refine uR λk hk=>he k λhc=>?_
 have:=xd.1 ha _ (lX.2 ⟨k,hk,rfl⟩)
 rw[hc]at this;cases this
def aZ2(H:List SO)(E:Env)(ks:List Nat)(b:Nat):Prop:=∃k∈ks,∃e,E k=some e/\holds e (H.getD k .dead) b
def smlF(X0:Fr)(H:List SO)(E:Env)(ks:List Nat):Fr:=⟨λb=>Xo X0 E H b/\¬ aZ2 H E ks b,aZ2 H E ks,smlE E ks,true⟩
theorem bP4{os ks}(_:EI)(so:SO)(v:Value)(us:Nat->Option Nat)(ver:Nat):holds (.slc 0 v us) (smlO os ks so)=holds (.slc ver v us) so:=by
 cases so<;>first|rfl|skip
 ·funext b;simp only[smlO,holds,ae8]
 ·funext b;simp only[smlO,holds,ae7]
theorem ai5{os H E ks i e b}(h:smlE E ks i=some e)(hb:holds e ((List.map (smlO os ks) (aa4 H ks)).getD i .dead) b):∃k e0,ks[i]?=some k/\E k=some e0/\holds e0 (H.getD k .dead) b:=by
 obtain⟨k,hk,h2⟩:=an6 h;have hget:(List.map (smlO os ks) (aa4 H ks)).getD i .dead=smlO os ks (H.getD k .dead):=by
  rw[la,lW,aa4,lW,hk];rfl
 rw[hget]at hb;rcases h2 with⟨b0,he,rfl⟩|⟨ver,v,us,he,rfl⟩
 ·refine⟨k,_,hk,he,?_⟩;generalize H.getD k .dead=so at *
  cases so<;>simp only[smlO,holds]at hb⊢<;>first|exact hb|cases hb
 ·exact⟨k,_,hk,he,by rw[<-bP4 (os:=os) (ks:=ks) (.slc 0 v us) _ v us ver];exact hb⟩
theorem aN3{w X X' E}(hx:∀b,X' b->X b){os ks}(hv:cj5 os E ks){so:SO}:(∀{b},EIok w X E (.blk b) so->EIok w X' (smlE E ks) (.blk b) (smlO os ks so))/\(∀{ver v us},EIok w X E (.slc ver v us) so->EIok w X' (smlE E ks) (.slc 0 v us) (smlO os ks so)):=by
 have weak:∀{s:SV}{v:Value},R w X E0 s v->R w X' E0 s v:=λh=>h.mono (λ_ _ _=>rfl) (λb _ hb=>hx b hb) (Env.le_refl _)
 constructor
 ·intro b h;cases so with
  |dead=>trivial
  |cells n g T=>
   obtain⟨vs,h1,h2,h3⟩:=h;exact⟨vs,h1,h2,λi hi=>⟨(h3 i hi).1,bj7 hx hv (h3 i hi).2⟩⟩
  |scells n g=>
   obtain⟨vs,T,fr,h1,h2,h3,h4⟩:=h;exact⟨vs,T,fr,h1,λhc=>h2 (hx _ hc),h3,λi hi=>⟨(h4 i hi).1,weak (h4 i hi).2⟩⟩
  |row=>exact h
  |srow=>exact h
  |deep=>exact h
  |mpi=>exact h
  |mps=>exact h
  |cus Q=>exact Q.mono (λ_ _ _ _ hc _=>hc) (λb _ hb=>hx b hb) h
 ·intro ver v us h;cases so with
  |dead=>trivial
  |cells=>exact h
  |scells=>exact h
  |mpi kk tot has val=>
   obtain⟨_,b,es,clock,h1,h2,h3⟩:=h;exact⟨rfl,b,es,clock,h1,h2,h3.over hx⟩
  |mps kd has c m p T' ho=>
   obtain⟨_,b,es,clock,h1,h2,d⟩:=h;exact⟨rfl,b,es,clock,h1,h2,d.over hx _ λs u hu=>bj7 hx hv hu⟩
  |cus=>exact h
  |row=>
   obtain⟨_,xs,h2,h3⟩:=h;exact⟨rfl,xs,h2,λi j hi hj=>⟨(h3 i j hi hj).1,weak (h3 i j hi hj).2⟩⟩
  |srow=>exact⟨rfl,weak h.2⟩
  |deep ver' len n c m p g T T' ho=>
   obtain⟨_,xs,d⟩:=h;refine⟨rfl,xs,d.map hx (λi hi=>by rwa[ae8]at hi) (λi sv' hi=>?_)⟩;rw[aw9]at hi;cases hh:hoAt ho i with
   |none=>rw[hh]at hi;cases hi
   |some sv=>
    rw[hh]at hi;cases hi;exact⟨sv,rfl,λu hu=>bj7 hx hv hu⟩
theorem Rep.sml{w0 X0 H E w}(h:Rep w0 X0 H E w){ks:List Nat}(hn:ay1 ks=true)(ha:(aa4 H ks).all aq5=true):
  Rep w (smlF X0 H E ks) ((aa4 H ks).map (smlO (aa4 H ks) ks)) (smlE E ks) w/\∀b,Xo (smlF X0 H E ks) (smlE E ks) ((aa4 H ks).map (smlO (aa4 H ks) ks)) b->Xo X0 E H b:=by
 have hv:=h.aZ3 ha;have hx:∀b,Xo (smlF X0 H E ks) (smlE E ks) ((aa4 H ks).map (smlO (aa4 H ks) ks)) b->Xo X0 E H b:=by
  rintro b (hb|⟨i,e,he,hh⟩)
  ·exact hb.1
  ·obtain⟨k,e0,hk,he0,hh0⟩:=ai5 he hh;exact .inr ⟨k,e0,he0,hh0⟩
 refine⟨⟨Bel.refl _ _,λb hb=>⟨h.xlt b hb.1,hb.2⟩,λi e he=>?_,λi e he=>?_,λi e he=>?_,λi e b he hb=>?_,λi i' e e' b he he' hb hb'=>?_⟩,hx⟩
 ·have he':smlE E ks i=some e:=he;obtain⟨k,hk,h2⟩:=an6 he';rcases h2 with⟨b,hb,rfl⟩|⟨ver,v,us,hv,rfl⟩
  ·exact he'
  ·exact⟨0,v,us,he',λ_=>rfl⟩
 ·obtain⟨k,hk,_⟩:=an6 he;rw[lY,aa4,lY];exact(lT.1 hk).1
 ·obtain⟨k,hk,h2⟩:=an6 he;have hget:(List.map (smlO (aa4 H ks) ks) (aa4 H ks)).getD i .dead=smlO (aa4 H ks) ks (H.getD k .dead):=by
   rw[la,lW,aa4,lW,hk];rfl
  rw[hget];rcases h2 with⟨b,hb,rfl⟩|⟨ver,v,us,hb,rfl⟩
  ·exact(aN3 hx hv).1 (h.ok k _ hb)
  ·exact(aN3 hx hv).2 (h.ok k _ hb)
 ·obtain⟨k,e0,hk,he0,hh0⟩:=ai5 he hb;exact .inr ⟨k,xm hk,e0,he0,hh0⟩
 ·obtain⟨k,e0,hk,he0,hh0⟩:=ai5 he hb;obtain⟨k',e1,hk',he1,hh1⟩:=ai5 he' hb';have:=h.inj k k' e0 e1 b he0 he1 hh0 hh1
  subst this;have h1:=ar6 hn hk;rw[ar6 hn hk']at h1;exact(sj h1).symm
open Go.RowKit
def bigE(os:List SO)(ks:List Nat)(E Es:Env):Env:=λk=>match posOf ks k with
 |some i=>match Es i with
  |some (.blk b)=>some (.blk b)
  |some (.slc ver v us)=>some (.slc (verO (os.getD i .dead)+ver) v us)
  |none=>none
 |none=>E k
theorem bw9{os ks E Es k i b}(h:posOf ks k=some i)(he:Es i=some (.blk b)):bigE os ks E Es k=some (.blk b):=by simp only[bigE,h,he]
theorem bw7{os ks E Es k i ver v us}(h:posOf ks k=some i)(he:Es i=some (.slc ver v us)):bigE os ks E Es k=some (.slc (verO (os.getD i .dead)+ver) v us):=by simp only[bigE,h,he]
theorem ak6{os ks E Es k}(h:posOf ks k=none):bigE os ks E Es k=E k:=by simp only[bigE,h]
theorem bw8{os ks E Es k e}(h:bigE os ks E Es k=some e):(posOf ks k=none/\E k=some e)\/∃i,posOf ks k=some i/\((∃b,Es i=some (.blk b)/\e=.blk b)\/∃ver v us,Es i=some (.slc ver v us)/\e=.slc (verO (os.getD i .dead)+ver) v us):=by
 simp only[bigE]at h;split at h
 ·rename_i i hi;split at h
  ·rename_i b hb;cases h;exact .inr ⟨i,hi,.inl ⟨b,hb,rfl⟩⟩
  ·rename_i ver v us hv;cases h;exact .inr ⟨i,hi,.inr ⟨ver,v,us,hv,rfl⟩⟩
  ·cases h
 ·rename_i hi;exact .inl ⟨hi,h⟩
theorem ap9{os ks v0}(so:SO):(∀b,holds (.blk b) (bigO os ks v0 so)=holds (.blk b) so)/\∀v us ver ver',holds (.slc ver' v us) (bigO os ks v0 so)=holds (.slc ver v us) so:=by
 constructor
 ·intro b;cases so<;>rfl
 ·intro v us ver ver';cases so<;>first|rfl|skip
  ·funext b;simp only[bigO,holds,ae8]
  ·funext b;simp only[bigO,holds,ae7]
theorem Env.le_of{E E':Env}(h1:∀k b,E k=some (.blk b)->E' k=some (.blk b))(h2:∀k ver v us,E k=some (.slc ver v us)->∃ver' v' us',E' k=some (.slc ver' v' us')/\ver<=ver'/\(ver=ver'->v=v')):E.le E':=⟨h1,h2⟩
theorem Goes.b57{w0 X0 H E w nm}(h:Rep w0 X0 H E w){ks:List Nat}(hn:ay1 ks=true)(hkn:∀k∈ks,E k≠none)(ha:(aa4 H ks).all aq5=true){post:List SO}{Es:Env}{w':World}
  (hs:Rep w (smlF X0 H E ks) post Es w') {res:SV}{v:Value}(hr:R w' (Xo (smlF X0 H E ks) Es post) Es res v):
  Goes w0 X0 H E w nm (.sets (ai6 (aa4 H ks) ks post ks 0)) (big (aa4 H ks) ks res) v w':=by
 have hkl:∀k∈ks,k<H.length:=λk hk=>by
  cases he:E k with
  |none=>exact absurd he (hkn k hk)
  |some e=>exact h.dom k e he
 have hv:=h.aZ3 ha;obtain⟨hlen,hget⟩:=aT1 (os:=aa4 H ks) (ks:=ks) (post:=post) ks 0 H hn hkl;have getIn:∀{k i},posOf ks k=some i->(ad5 H (ai6 (aa4 H ks) ks post ks 0)).getD k .dead=bigO (aa4 H ks) ks (verO ((aa4 H ks).getD i .dead)) (post.getD i .dead):=λhp=>by rw[hget,hp];simp only[lI]
 have getOut:∀{k},posOf ks k=none->(ad5 H (ai6 (aa4 H ks) ks post ks 0)).getD k .dead=H.getD k .dead:=λhp=>by rw[hget,hp]
 have le:E.le (bigE (aa4 H ks) ks E Es):=by
  refine Env.le_of (λk b he=>?_) λk ver v us he=>?_
  ·cases hp:posOf ks k with
   |none=>rw[ak6 hp];exact he
   |some i=>exact bw9 hp (hs.nm i _ (a13 hp he))
  ·cases hp:posOf ks k with
   |none=>exact⟨ver,v,us,by rw[ak6 hp];exact he,lh _,λ_=>rfl⟩
   |some i=>
    obtain⟨ver',v',us',h3,h4⟩:=hs.nm i _ (aw3 hp he);have hvk:=hv i k (af8 hp) ver v us he;exact⟨_,v',us',bw7 hp h3,by omega,λhc=>(h4 (by omega)).symm⟩
 have held:∀{i k e b},posOf ks k=some i->bigE (aa4 H ks) ks E Es k=some e->holds e ((ad5 H (ai6 (aa4 H ks) ks post ks 0)).getD k .dead) b->∃e0,Es i=some e0/\holds e0 (post.getD i .dead) b:=by
  intro i k e b hp he hb;rw[getIn hp]at hb;rcases bw8 he with⟨hno,_⟩|⟨i',hp',h2⟩
  ·rw[hp]at hno;cases hno
  ·rw[hp]at hp';cases hp';rcases h2 with⟨b0,he0,rfl⟩|⟨ver,v,us,he0,rfl⟩
   ·exact⟨_,he0,by rw[(ap9 _).1]at hb;exact hb⟩
   ·exact⟨_,he0,by rw[(ap9 _).2 v us ver]at hb;exact hb⟩
 have out:∀{k e b},posOf ks k=none->E k=some e->holds e (H.getD k .dead) b->¬ aZ2 H E ks b:=by
  rintro k e b hp he hb ⟨k',hk',e',he',hb'⟩;have:=h.inj k k' e e' b he he' hb hb'
  subst this;exact aF6 hp hk'
 have x0d:∀{b},X0.x b->¬ aZ2 H E ks b:=by
  rintro b hb ⟨k',hk',e',he',hb'⟩;have h1:=h.x0 b hb;rcases h.low k' e' b he' hb' with h2|h2
  ·omega
  ·exact h1.2 h2
 have keep:∀b<w.heap.size,¬ aZ2 H E ks b->w'.heap[b]?=w.heap[b]?:=λb hlt hd=>hs.below.block b hlt hd
 have lowS:∀{i e b},Es i=some e->holds e (post.getD i .dead) b->w.heap.size<=b\/aZ2 H E ks b:=λhe hb=>hs.low _ _ _ he hb
 have hx:∀b,Xo X0 (bigE (aa4 H ks) ks E Es) (ad5 H (ai6 (aa4 H ks) ks post ks 0)) b->Xo (smlF X0 H E ks) Es post b:=by
  rintro b (hb|⟨k,e,he,hb⟩)
  ·exact .inl ⟨.inl hb,x0d hb⟩
  ·cases hp:posOf ks k with
   |none=>
    rw[ak6 hp]at he;rw[getOut hp]at hb;exact .inl ⟨.inr ⟨k,e,he,hb⟩,out hp he hb⟩
   |some i=>
    obtain⟨e0,h1,h2⟩:=held hp he hb;exact .inr ⟨i,e0,h1,h2⟩
 have hke:aA1 (Xo X0 E H) w w':=λb hlt hX=>keep b hlt λ⟨k,_,e,he,hb⟩=>hX (.inr ⟨k,e,he,hb⟩)
 have hwi:ab7 (Xo X0 E H) (Xo X0 (bigE (aa4 H ks) ks E Es) (ad5 H (ai6 (aa4 H ks) ks post ks 0))) w:=by
  rintro b hlt (hb|⟨k,e,he,hb⟩)
  ·exact .inl hb
  ·cases hp:posOf ks k with
   |none=>
    rw[ak6 hp]at he;rw[getOut hp]at hb;exact .inr ⟨k,e,he,hb⟩
   |some i=>
    obtain⟨e0,h1,h2⟩:=held hp he hb;rcases lowS h1 h2 with h3|⟨k',_,e',he',hb'⟩
    ·omega
    ·exact .inr ⟨k',e',he',hb'⟩
 have hbig:∀{s:SV}{u:Value},R w' (Xo (smlF X0 H E ks) Es post) Es s u->R w' (Xo X0 (bigE (aa4 H ks) ks E Es) (ad5 H (ai6 (aa4 H ks) ks post ks 0))) (bigE (aa4 H ks) ks E Es) (big (aa4 H ks) ks s) u:=λhr=>
  aV8 hx (λi k b hk he=>bw9 (ar6 hn hk) he) (λi k ver v us hk he=>bw7 (ar6 hn hk) he) hr
 have weak:∀{s:SV}{u:Value},R w' (Xo (smlF X0 H E ks) Es post) E0 s u->R w' (Xo X0 (bigE (aa4 H ks) ks E Es) (ad5 H (ai6 (aa4 H ks) ks post ks 0))) E0 s u:=λhr=>hr.mono (λ_ _ _=>rfl) (λb _ hb=>hx b hb) (Env.le_refl _)
 refine⟨bigE (aa4 H ks) ks E Es,le,hke,hwi,⟨?_,h.x0,λk e hk=>(h.nm k e hk).le le,λk e he=>?_,λk e he=>?_,λk e b he hb=>?_,λk k' e e' b he he' hb hb'=>?_⟩,hbig hr,λk hk=> .inl λhc=>hk ?_⟩
 ·refine⟨hs.below.os.trans h.below.os,hs.below.tape.trans h.below.tape,hs.below.output.trans h.below.output,lU h.below.size hs.below.size,λb hlt hd=>?_⟩;refine(keep b (lQ hlt h.below.size) λ⟨k,_,e,he,hb⟩=>?_).trans (h.below.block b hlt hd);rcases h.low k e b he hb with h2|h2
  ·omega
  ·exact hd h2
 ·show k<(ad5 H (ai6 (aa4 H ks) ks post ks 0)).length;rw[hlen];cases hp:posOf ks k with
  |none=>rw[ak6 hp]at he;exact h.dom k e he
  |some i=>exact hkl k (aC0 hp)
 ·show EIok w' _ _ e ((ad5 H (ai6 (aa4 H ks) ks post ks 0)).getD k .dead);rcases bw8 he with⟨hp,he0⟩|⟨i,hp,h2⟩
  ·rw[getOut hp];exact(h.ok k e he0).mono hke hwi le λb hb=>keep b (ak3 (h.ok k e he0) hb) (out hp he0 hb)
  ·rw[getIn hp];rcases h2 with⟨b0,he0,rfl⟩|⟨ver,v,us,he0,rfl⟩
   ·have hok:=hs.ok i _ he0;generalize post.getD i .dead=so at hok;cases so with
    |dead=>trivial
    |cells n g T=>
     obtain⟨vs,h1,h2,h3⟩:=hok;exact⟨vs,h1,h2,λj hj=>⟨(h3 j hj).1,hbig (h3 j hj).2⟩⟩
    |scells n g=>
     obtain⟨vs,T,fr,h1,h2,h3,h4⟩:=hok;exact⟨vs,T,fr,h1,λhc=>h2 (hx _ hc),h3,λj hj=>⟨(h4 j hj).1,weak (h4 j hj).2⟩⟩
    |row=>exact hok
    |srow=>exact hok
    |deep=>exact hok
    |mpi=>exact hok
    |mps=>exact hok
    |cus Q=>exact Q.mono (λ_ _ _ _ hc _=>hc) (λb _ hb=>hx b hb) hok
   ·have hok:=hs.ok i _ he0;have hverm:∀b0,ver=0->v=.map (some b0)->verO ((aa4 H ks).getD i .dead)+ver=0:=λb0 hz hvm=>by
     subst hz;subst hvm;have hki:=af8 hp;cases hEk:E k with
     |none=>exact absurd hEk (hkn k (aC0 hp))
     |some e0=>
      have halk:aq5 (H.getD k .dead)=true:=xd.1 ha _ (lX.2 ⟨k,aC0 hp,rfl⟩);cases e0 with
      |blk b1=>
       have:=hs.nm i _ (a13 hp hEk)
       rw[he0]at this;cases this
      |slc ver1 v1 us1=>
       obtain⟨ver2,v2,us2,g1,g2⟩:=hs.nm i _ (aw3 hp hEk);rw[he0]at g1;cases g1;have hv1:=g2 rfl;subst hv1;have hz1:=bq5 (h.ok k _ hEk) halk;have:=h.aZ3 ha i k hki _ _ _ hEk
       omega
    generalize post.getD i .dead=so at hok;cases so with
    |dead=>trivial
    |cells=>exact hok
    |scells=>exact hok
    |mpi kk tot has val=>
     obtain⟨hz,b1,es,clock,h1,h2,h3⟩:=hok;exact⟨hverm b1 hz h1,b1,es,clock,h1,h2,h3.over hx⟩
    |mps kd has c m p T' ho=>
     obtain⟨hz,b1,es,clock,h1,h2,d⟩:=hok;exact⟨hverm b1 hz h1,b1,es,clock,h1,h2,d.over hx _ λs u hu=>hbig hu⟩
    |cus=>exact hok
    |row ver' len n g T=>
     obtain⟨rfl,xs,h2,h3⟩:=hok;exact⟨rfl,xs,h2,λi j hi hj=>⟨(h3 i j hi hj).1,weak (h3 i j hi hj).2⟩⟩
    |srow ver' len n g=>
     obtain⟨rfl,h2⟩:=hok;exact⟨rfl,weak h2⟩
    |deep ver' len n c m p g T T' ho=>
     obtain⟨rfl,xs,d⟩:=hok;refine⟨rfl,xs,d.map hx (λi hi=>by rwa[ae8]at hi) (λi sv' hi=>?_)⟩;rw[aw9]at hi;cases hh:hoAt ho i with
     |none=>rw[hh]at hi;cases hi
     |some sv=>
      rw[hh]at hi;cases hi;exact⟨sv,rfl,λu hu=>hbig hu⟩
 ·have hb':holds e ((ad5 H (ai6 (aa4 H ks) ks post ks 0)).getD k .dead) b:=hb;cases hp:posOf ks k with
  |none=>
   rw[ak6 hp]at he;rw[getOut hp]at hb';exact h.low k e b he hb'
  |some i=>
   obtain⟨e0,h1,h2⟩:=held hp he hb';rcases lowS h1 h2 with h3|⟨k',_,e',he',hb''⟩
   ·exact .inl (lU h.below.size h3)
   ·exact h.low k' e' b he' hb''
 ·have hb1:holds e ((ad5 H (ai6 (aa4 H ks) ks post ks 0)).getD k .dead) b:=hb;have hb2:holds e' ((ad5 H (ai6 (aa4 H ks) ks post ks 0)).getD k' .dead) b:=hb';have mixed:∀{k k' e e' i},posOf ks k=none->E k=some e->holds e (H.getD k .dead) b->posOf ks k'=some i->bigE (aa4 H ks) ks E Es k'=some e'->holds e' ((ad5 H (ai6 (aa4 H ks) ks post ks 0)).getD k' .dead) b->False:=by
   intro k k' e e' i hp he hb hp' he' hb';obtain⟨e0,h1,h2⟩:=held hp' he' hb';rcases lowS h1 h2 with h3|h3
   ·have:=ak3 (h.ok k e he) hb
    omega
   ·exact out hp he hb h3
  cases hp:posOf ks k with
  |none=>
   rw[ak6 hp]at he;rw[getOut hp]at hb1;cases hp':posOf ks k' with
   |none=>
    rw[ak6 hp']at he';rw[getOut hp']at hb2;exact h.inj k k' e e' b he he' hb1 hb2
   |some i'=>exact(mixed hp he hb1 hp' he' hb2).elim
  |some i=>
   cases hp':posOf ks k' with
   |none=>
    rw[ak6 hp']at he';rw[getOut hp']at hb2;exact(mixed hp' he' hb2 hp he hb1).elim
   |some i'=>
    obtain⟨e0,h1,h2⟩:=held hp he hb1;obtain⟨e1,h3,h4⟩:=held hp' he' hb2;have:=hs.inj i i' e0 e1 b h1 h3 h2 h4
    subst this;exact bK9 hp hp'
 ·cases hp:posOf ks k with
  |none=>rw[ak6 hp];exact hc
  |some i=>exact absurd hc (hkn k (aC0 hp))
def cj0(l:List SV)(os:List SO)(a:List SV)(o:List SO):Prop:=match Nat.beq l.length a.length with
 |true=>as9 os.length os o (StLe ⟨as7 0 l,os⟩ ⟨as7 0 a,o⟩)
 |false=>False
def af2(f:FuncId)(paths:List NP){γ:Type}(dec:List SV->List SO->Option γ)(args:γ->List SV)(objs:γ->List SO)(pre:γ->Prop)(res:γ->SV)(post:γ->List SO):FSpec:=
 {f:=f,eff:=true,run:=λl H _=>match am8 H l paths []with
  | some ks=>match ay1 ks&&(aa4 H ks).all aq5 with
    | true=>match dec (l.map (sml (aa4 H ks) ks)) ((aa4 H ks).map (smlO (aa4 H ks) ks))with
      |some g=>some ⟨aN4 (aa4 H ks) paths (cj0 (l.map (sml (aa4 H ks) ks)) ((aa4 H ks).map (smlO (aa4 H ks) ks)) (args g) (objs g)/\Aq (pre g)),big (aa4 H ks) ks (res g),.sets (ai6 (aa4 H ks) ks (post g) ks 0)⟩
      |none=>none
    |false=>none
  |none=>none}
def bq9(P:Program)(fn:Func)(m:Nat)(own:Bool)(res:SV)(post:List SO)(s:St):Prop:=
 match resS P fn.ntmps s fn.results.toList with
 |some (p,l)=>p/\match own with
  |true=>as9 m s.H post (StLe ⟨[(0,oneOf l)],s.H⟩ ⟨[(0,res)],post⟩)
  |false=>match au8 s.H (aQ0 s.H 6 (oneOf l))with
   |some fl=>aJ7 (ad5 s.H fl) λH=>match pur H 6 (oneOf l)with
    |some v=>as9 m H post (StLe ⟨[(0,v)],H⟩ ⟨[(0,res)],post⟩)
    |none=>False
   |none=>False
 |none=>False
def retM(P:Program)(fn:Func)(m:Nat)(own:Bool)(res:SV)(post:List SO):SK
 |.exit _,_=>False
 |_,s=>bq9 P fn m own res post s
theorem bz8{P:Program}{fn:Func}{m:Nat}{own:Bool}{res:SV}{post:List SO}{s:St}{w0 X0 a w}(hk:bq9 P fn m own res post s)(hnm:∀k,X0.nm k≠none->k<m)(hs:StR w0 X0 fn.ntmps s a w):
  ∃v Es,(results fn a.tmps).run P w=.ok v w/\Rep w0 X0 post Es w/\R w (Xo X0 Es post) Es res v:=by
 obtain⟨E,hrep,htr⟩:=hs;unfold bq9 at hk;split at hk
 case h_2=>exact hk.elim
 rename_i p l hres;obtain⟨hp,hk⟩:=hk;obtain⟨v,hv1,hv2⟩:=aj3 rfl hrep htr hres hp;have fin:∀{H:List SO}{sv:SV},Rep w0 X0 H E w->R w (Xo X0 E H) E sv v->as9 m H post (StLe ⟨[(0,sv)],H⟩ ⟨[(0,res)],post⟩)->∃v Es,(results fn a.tmps).run P w=.ok v w/\Rep w0 X0 post Es w/\R w (Xo X0 Es post) Es res v:=by
  intro H sv hrep hr hle;obtain⟨h1,h2⟩:=hle.get;obtain⟨h3,h4⟩:=hrep.le h2.2 hnm h1;have:=ah1 h4 (λk ver v us he ver' hr=>ax4 (hrep.ok k _ he) hr) (ao8 h2.1 0) hr
  exact⟨v,_,hv1,h3,this⟩
 split at hk
 ·exact fin hrep hv2 hk
 ·split at hk
  case h_2=>exact hk.elim
  rename_i fl hfl;rw[am9]at hk;split at hk
  case h_2=>exact hk.elim
  rename_i sv hsv;obtain⟨g1,g2⟩:=ag6 _ _ _ hrep hfl;exact fin g1 (up (ap7 g1 6 _ _ _ hsv (hv2.mono (λ_ _ _=>rfl) g2 (Env.le_refl _)))) hk
theorem bc7{Γ:World->Fr->Prop}(hG:∀{w0 X0 H E w ks},Γ w0 X0->Rep w0 X0 H E w->Γ w (smlF X0 H E ks)){P:Program}{specs:List FSpec}(hspecs:∀s∈specs,bq3 Γ P s){eqs:List (TypeId×List CK)}(heqs:∀t n,(t,n)∈eqs->EqOK P t n)(hm:P.follows .mixedOrders=true)
  {f:FuncId}{fn:Func}{body:Code}(hf:P.funcs[f]?=some fn) (hb:fn.body=some body) (_:al7 (effS specs) body=true) (hN:(∀w0 X0,Γ w0 X0)\/noRF body=true) (hent:∀args w,(callFunc f args).run P w=.ok (.enter f args) w)
  {paths:List NP}{γ:Type}{dec:List SV->List SO->Option γ}{args:γ->List SV}{objs:γ->List SO}{pre:γ->Prop}{res:γ->SV}{post:γ->List SO}(A:γ->Ann) (own:Bool) (hlen:∀g,(args g).length<=fn.ntmps)
  (h:∀g,pre g->vc P specs eqs fn.ntmps paths.length false (A g) body (retM P fn paths.length own (res g) (post g)) ⟨as7 0 (args g),objs g⟩):bq3 Γ P (af2 f paths dec args objs pre res post):=by
 refineλw0 X0 hΓ=>⟨hent,λl H HF nm y he _ hrun=>?_,λl H nm y hrun hask E w hrep hfree vals ha=>?_⟩
 ·simp only[af2]at hrun⊢;split at hrun
  case h_2=>cases hrun
  rename_i ks hks;rw[az2 he paths [] ks hks];split at hrun
  case h_2=>cases hrun
  rename_i hc;simp only
  rw[aX3 he (lr _ _▸hc).2,hc];exact hrun
 ·simp only[af2]at hrun;split at hrun
  case h_2=>cases hrun
  rename_i ks hks;split at hrun
  case h_2=>cases hrun
  rename_i hc;rw[lr]at hc;obtain⟨hn,hal⟩:=hc;split at hrun
  case h_2=>cases hrun
  rename_i g hdec;cases hrun;obtain⟨⟨hle,⟨hpre⟩⟩,hholes⟩:=aA7 hask;obtain⟨hkn,hkl⟩:=ar7 hrep ha paths [] ks (λk hk=>by cases hk) (aQ7 hholes) hks;have hkl':ks.length=paths.length:=by simpa using hkl
  unfold cj0 at hle;split at hle
  case h_2=>exact hle.elim
  rename_i hll;have hll':=lK hll;rw[lY]at hll';obtain⟨hs,hxs⟩:=hrep.sml hn hal;have hv:=hrep.aZ3 hal;have hnm:∀k,(smlF X0 H E ks).nm k≠none->k<paths.length:=λk hk=>by
   cases he:smlE E ks k with
   |none=>exact absurd he hk
   |some e=>
    obtain⟨k',hk',_⟩:=an6 he;have:=(lT.1 hk').1
    omega
  have hT:=am2 fn.ntmps vals (l.map (sml (aa4 H ks) ks)) w (Xo (smlF X0 H E ks) (smlE E ks) ((aa4 H ks).map (smlO (aa4 H ks) ks))) (smlE E ks) (by rw[ha.1,lY]) (by rw[lY,hll'];exact hlen g) (λi hi=>by
   rw[lY]at hi;have e1:(l.map (sml (aa4 H ks) ks)).getD i .any=sml (aa4 H ks) ks (l.getD i .any):=by
    rw[la,lW,la,lw hi];rfl
   rw[e1];exact bj7 hxs hv (ha.2 i hi))
  have hst:StR w (smlF X0 H E ks) fn.ntmps ⟨as7 0 (l.map (sml (aa4 H ks) ks)),(aa4 H ks).map (smlO (aa4 H ks) ks)⟩ ⟨vals++Array.replicate (fn.ntmps-vals.size) undef,[]⟩ w:=⟨smlE E ks,hs,hT.1,aA4.nil _ _ _,hT.2⟩
  have hst2:=hst.le (m:=((aa4 H ks).map (smlO (aa4 H ks) ks)).length) (λk hk=>by rw[lY,aa4,lY,hkl'];exact hnm k hk) hle.get.1 hle.get.2;refine an2 (w0:=w) (X0:=smlF X0 H E ks) (G:=bq9 P fn paths.length own (res g) (post g)) hf hb (aN5 (Γ:=Γ) (w0:=w) (X0:=smlF X0 H E ks) (λw0 X0 h s hs=>hspecs s hs w0 X0 h) heqs hm body hN (hG hΓ hrep) (.inl rfl) (λ_=>rfl) hnm _ _ _ _ (h g hpre) (λe s a w' hk hs=>?_) _ w hst2) (λs a w' hk _ hs=>?_)
  ·cases e with
   |normal=>exact⟨s,hk,hs⟩
   |ret=>exact⟨s,hk,hs⟩
   |exit id=>exact hk.elim
  ·obtain⟨v,Es,h2,h3,h4⟩:=bz8 hk hnm hs;exact⟨v,h2,v,rfl,Goes.b57 hrep hn hkn hal h3 h4⟩
theorem ay6{P:Program}{specs:List FSpec}(hspecs:∀s∈specs,aa5 P s){eqs:List (TypeId×List CK)}(heqs:∀t n,(t,n)∈eqs->EqOK P t n)(hm:P.follows .mixedOrders=true)
  {f:FuncId}{fn:Func}{body:Code}(hf:P.funcs[f]?=some fn) (hb:fn.body=some body) (hc:al7 (effS specs) body=true) (hent:∀args w,(callFunc f args).run P w=.ok (.enter f args) w)
  {paths:List NP}{γ:Type}{dec:List SV->List SO->Option γ}{args:γ->List SV}{objs:γ->List SO}{pre:γ->Prop}{res:γ->SV}{post:γ->List SO}(A:γ->Ann) (own:Bool) (hlen:∀g,(args g).length<=fn.ntmps)
  (h:∀g,pre g->vc P specs eqs fn.ntmps paths.length false (A g) body (retM P fn paths.length own (res g) (post g)) ⟨as7 0 (args g),objs g⟩):aa5 P (af2 f paths dec args objs pre res post):=
 an5 λw0 X0=>bc7 (Γ:=topG) (λ_ _=>trivial) (λs hs=>(hspecs s hs).g) heqs hm hf hb hc (.inl λ_ _=>trivial) hent A own hlen h w0 X0 trivial
theorem smW{P:Program}{specs:List FSpec}(ha:bU5 P specs){f:FuncId}{fn:Func}(hf:P.funcs[f]?=some fn)
  {paths:List NP}{γ:Type}{dec:List SV->List SO->Option γ}{args:γ->List SV}{objs:γ->List SO}{pre:γ->Prop}{res:γ->SV}{post:γ->List SO}(A:γ->Ann) (own:Bool)
  (h:∀g,pre g->vc P specs [] fn.ntmps paths.length false (A g) (fn.body.getD .skip) (retM P fn paths.length own (res g) (post g)) ⟨as7 0 (args g),objs g⟩) (hm:P.follows .mixedOrders=true:=by kernel_rfl) (hb:fn.body.isSome=true:=by kernel_rfl) (hent:∀args w,(callFunc f args).run P w=.ok (.enter f args) w:=by intro _ _;kernel_rfl) (hl:∀g,Nat.ble (args g).length fn.ntmps=true:=by intro g;kernel_rfl):aa5 P (af2 f paths dec args objs pre res post):=by
 cases e:fn.body with
 |none=>rw[e]at hb;cases hb
 |some b=>
  rw[e]at h;exact ay6 (av3 ha) (λ_ _ h=>(xi h).elim) hm hf e rfl hent A own (λg=>lN (hl g)) h
theorem Rep.pick{w0:World}{X:Nat->Prop}{H E w}(h:Rep w0 (Fr.of X) H E w){ks:List Nat}(hn:ay1 ks=true)(ha:(aa4 H ks).all aq5=true):
  Rep w0 (Fr.of X) ((aa4 H ks).map (smlO (aa4 H ks) ks)) (smlE E ks) w/\∀b,Xo (Fr.of X) (smlE E ks) ((aa4 H ks).map (smlO (aa4 H ks) ks)) b->Xo (Fr.of X) E H b:=by
 have hv:=h.aZ3 ha;have hx:∀b,Xo (Fr.of X) (smlE E ks) ((aa4 H ks).map (smlO (aa4 H ks) ks)) b->Xo (Fr.of X) E H b:=by
  rintro b (hb|⟨i,e,he,hh⟩)
  ·exact .inl hb
  ·obtain⟨k,e0,hk,he0,hh0⟩:=ai5 he hh;exact .inr ⟨k,e0,he0,hh0⟩
 refine⟨⟨h.below,h.x0,λi e he=>(nomatch he),λi e he=>?_,λi e he=>?_,λi e b he hb=>?_,λi i' e e' b he he' hb hb'=>?_⟩,hx⟩
 ·obtain⟨k,hk,_⟩:=an6 he;rw[lY,aa4,lY];exact(lT.1 hk).1
 ·obtain⟨k,hk,h2⟩:=an6 he;have hget:(List.map (smlO (aa4 H ks) ks) (aa4 H ks)).getD i .dead=smlO (aa4 H ks) ks (H.getD k .dead):=by
   rw[la,lW,aa4,lW,hk];rfl
  rw[hget];rcases h2 with⟨b,hb,rfl⟩|⟨ver,v,us,hb,rfl⟩
  ·exact(aN3 hx hv).1 (h.ok k _ hb)
  ·exact(aN3 hx hv).2 (h.ok k _ hb)
 ·obtain⟨k,e0,hk,he0,hh0⟩:=ai5 he hb;exact h.low k e0 b he0 hh0
 ·obtain⟨k,e0,hk,he0,hh0⟩:=ai5 he hb;obtain⟨k',e1,hk',he1,hh1⟩:=ai5 he' hb';have:=h.inj k k' e0 e1 b he0 he1 hh0 hh1
  subst this;have h1:=ar6 hn hk;rw[ar6 hn hk']at h1;exact(sj h1).symm
theorem Goes.b58{w0 X0 H E w nm}(h:Rep w0 X0 H E w){row:SO}(hf:Free H E nm (.new (bigO [.dead] [nm] 0 row))){Es:Env}{w':World}(hs:Rep w (Fr.of (Xo X0 E H)) [row] Es w'){res:SV}{v:Value}
  (hr:R w' (Xo (Fr.of (Xo X0 E H)) Es [row]) Es res v):Goes w0 X0 H E w nm (.new (bigO [.dead] [nm] 0 row)) (big [.dead] [nm] res) v w':=by
 have hb:=hs.below.all;obtain⟨f1,f2,f3⟩:=hf _ rfl;cases he:Es 0 with
 |none=>
  refine⟨E,Env.le_refl _,Rep.keeps hb,ab7.refl _ _,h.world hb,aV8 (λb hb=> .inl hb) (λi k b hk he'=>?_) (λi k ver v us hk he'=>?_) hr,λk hk=> .inl hk⟩
  ·cases i with
   |zero=>rw[he]at he';cases he'
   |succ i=>cases hk
  ·cases i with
   |zero=>rw[he]at he';cases he'
   |succ i=>cases hk
 |some e=>
  have hhold:∀b,holds e (bigO [.dead] [nm] 0 row) b->holds e row b:=by
   intro b hb;cases e with
   |blk b0=>rw[(ap9 _).1]at hb;exact hb
   |slc ver v us=>rw[(ap9 _).2 v us ver ver]at hb;exact hb
  have hok:=hs.ok 0 e he;have hrow:[row].getD 0 SO.dead=row:=rfl;rw[hrow]at hok;have hx:∀b,Xo X0 (E.put nm e) H b->Xo (Fr.of (Xo X0 E H)) Es [row] b:=by
   rintro b (hb|⟨k,e',hk,hh⟩)
   ·exact .inl (.inl hb)
   ·by_cases hkn:k=nm
    ·subst hkn;rw[Env.aa8]at hk;cases hk;rw[f3]at hh;exact .inr ⟨0,e,he,hhold b hh⟩
    ·rw[Env.ac6 hkn]at hk;exact .inl (.inr ⟨k,e',hk,hh⟩)
  have n1:∀i k b,([nm]:List Nat)[i]?=some k->Es i=some (.blk b)->(E.put nm e) k=some (.blk b):=by
   intro i k b hk he';cases i with
   |zero=>cases hk;rw[he]at he';cases he';exact Env.aa8 _ _ _
   |succ i=>cases hk
  have n2:∀i k ver v us,([nm]:List Nat)[i]?=some k->Es i=some (.slc ver v us)->(E.put nm e) k=some (.slc (verO (([.dead]:List SO).getD i .dead)+ver) v us):=by
   intro i k ver v us hk he';cases i with
   |zero=>
    cases hk;rw[he]at he';cases he';rw[Env.aa8];show some (EI.slc ver v us)=some (EI.slc (0+ver) v us);rw[lI]
   |succ i=>cases hk
  have hokn:EIok w' (Xo X0 (E.put nm e) H) (E.put nm e) e (bigO [.dead] [nm] 0 row):=by
   have weak:∀{s:SV}{u:Value},R w' (Xo (Fr.of (Xo X0 E H)) Es [row]) E0 s u->R w' (Xo X0 (E.put nm e) H) E0 s u:=λhr=>hr.mono (λ_ _ _=>rfl) (λb _ hb=>hx b hb) (Env.le_refl _)
   cases e with
   |blk b0=>
    cases row with
    |dead=>trivial
    |cells n g T=>
     obtain⟨vs,h1,h2,h3⟩:=hok;exact⟨vs,h1,h2,λj hj=>⟨(h3 j hj).1,aV8 hx n1 n2 (h3 j hj).2⟩⟩
    |scells n g=>
     obtain⟨vs,T,fr,h1,h2,h3,h4⟩:=hok;exact⟨vs,T,fr,h1,λhc=>h2 (hx _ hc),h3,λj hj=>⟨(h4 j hj).1,weak (h4 j hj).2⟩⟩
    |row=>exact hok
    |srow=>exact hok
    |deep=>exact hok
    |mpi=>exact hok
    |mps=>exact hok
    |cus Q=>exact Q.mono (λ_ _ _ _ hc _=>hc) (λb _ hb=>hx b hb) hok
   |slc ver v us=>
    cases row with
    |dead=>trivial
    |cells=>exact hok
    |scells=>exact hok
    |mpi kk tot has val=>
     obtain⟨hz,b1,es,clock,h1,h2,h3⟩:=hok;exact⟨hz,b1,es,clock,h1,h2,h3.over hx⟩
    |mps kd has c m p T' ho=>
     obtain⟨hz,b1,es,clock,h1,h2,d⟩:=hok;exact⟨hz,b1,es,clock,h1,h2,d.over hx _ λs u hu=>aV8 hx n1 n2 hu⟩
    |cus=>exact hok
    |row ver' len n g T=>
     obtain⟨rfl,xs,h2,h3⟩:=hok;exact⟨(lI _).symm,xs,h2,λi j hi hj=>⟨(h3 i j hi hj).1,weak (h3 i j hi hj).2⟩⟩
    |srow ver' len n g=>
     obtain⟨rfl,h2⟩:=hok;exact⟨(lI _).symm,weak h2⟩
    |deep ver' len n c m p g T T' ho=>
     obtain⟨rfl,xs,d⟩:=hok;refine⟨(lI _).symm,xs,d.map hx (λi hi=>by rwa[ae8]at hi) (λi sv' hi=>?_)⟩;rw[aw9]at hi;cases hh:hoAt ho i with
     |none=>rw[hh]at hi;cases hi
     |some sv=>
      rw[hh]at hi;cases hi;exact⟨sv,rfl,λu hu=>aV8 hx n1 n2 hu⟩
  obtain⟨g1,g2⟩:=h.new (e:=e) f1 f2 hb (λb hb'=>by
   rw[f3]at hb';rcases hs.low 0 e b he (hhold b hb')with h4|h4
   ·exact h4
   ·exact h4.elim) (by rw[f3];exact hokn)
  refine⟨E.put nm e,Env.aQ6 f1,Rep.keeps hb,g2,g1,aV8 hx n1 n2 hr,λk hk=>?_⟩;by_cases hkn:k=nm
  ·exact .inr ⟨hkn,_,rfl⟩
  ·rw[Env.ac6 hkn]at hk;exact .inl hk
def aK9(n:Nat):List SO:=(List.range n).map λ_=> .dead
def af9(d n:Nat):List Nat:=(List.range n).map λi=>d+i
theorem aC4{d n i k:Nat}(h:(af9 d n)[i]?=some k):i<n/\k=d+i:=by
 unfold af9 at h;rw[lW]at h;cases hr:(List.range n)[i]? with
 |none=>rw[hr]at h;cases h
 |some j=>
  rw[hr]at h;cases h;have hi:=(lT.1 hr).1;rw[lai]at hi;rw[uz hi]at hr;cases hr;exact⟨hi,rfl⟩
theorem bR1(n i:Nat):verO ((aK9 n).getD i .dead)=0:=by
 have:(aK9 n).getD i .dead=.dead:=by
  unfold aK9;rw[la,lW];cases (List.range n)[i]?<;>rfl
 rw[this];rfl
theorem bE0.of{w0 X0 H E w}(h:Rep w0 X0 H E w){rows:List SO}{Es:Env}{w':World}(hs:Rep w (Fr.of (Xo X0 E H)) rows Es w'){res:SV}{v:Value}(hr:R w' (Xo (Fr.of (Xo X0 E H)) Es rows) Es res v):
  bE0 w0 X0 H E w (rows.map (bigO (aK9 rows.length) (af9 H.length rows.length) 0)) (big (aK9 rows.length) (af9 H.length rows.length) res) v w':=by
 have hb:=hs.below.all;generalize hE:(λk=>if k<H.length then E k else Es (k-H.length):Env)=E';generalize hN:rows.map (bigO (aK9 rows.length) (af9 H.length rows.length) 0)=new;have old:∀{k},k<H.length->E' k=E k:=λhk=>by rw[<-hE];exact ll hk
 have nw:∀i,E' (H.length+i)=Es i:=λi=>by
  rw[<-hE];show(if H.length+i<H.length then E (H.length+i)else Es (H.length+i-H.length))=Es i;rw[lu (by omega),xM]
 have split:∀k,k<H.length\/∃i,k=H.length+i:=λk=>by
  by_cases hk:k<H.length
  ·exact .inl hk
  ·exact .inr ⟨k-H.length,by omega⟩
 have hlen:new.length=rows.length:=by rw[<-hN,lY]
 have getOld:∀{k},k<H.length->(H++new).getD k .dead=H.getD k .dead:=λhk=>ab0 hk
 have getNew:∀{i},i<rows.length->(H++new).getD (H.length+i) .dead=bigO (aK9 rows.length) (af9 H.length rows.length) 0 (rows.getD i .dead):=λ{i} hi=>by
  rw[la,lR (by omega),xM,<-hN,lW,la,lw hi];rfl
 have hhold:∀{e:EI}{row:SO}{b:Nat},holds e (bigO (aK9 rows.length) (af9 H.length rows.length) 0 row) b->holds e row b:=by
  intro e row b hb;cases e with
  |blk b0=>rw[(ap9 _).1]at hb;exact hb
  |slc ver v us=>rw[(ap9 _).2 v us ver ver]at hb;exact hb
 have hx:∀b,Xo X0 E' (H++new) b->Xo (Fr.of (Xo X0 E H)) Es rows b:=by
  rintro b (hb|⟨k,e,hk,hh⟩)
  ·exact .inl (.inl hb)
  ·rcases split k with hkl|⟨i,rfl⟩
   ·rw[old hkl]at hk;rw[getOld hkl]at hh;exact .inl (.inr ⟨k,e,hk,hh⟩)
   ·rw[nw]at hk;rw[getNew (hs.dom _ _ hk)]at hh;exact .inr ⟨i,e,hk,hhold hh⟩
 have hw:ab7 (Xo X0 E H) (Xo X0 E' (H++new)) w:=by
  intro b hlt hbx;rcases hx b hbx with h1|⟨i,e,he,hh⟩
  ·exact h1
  ·rcases hs.low i e b he hh with h4|h4
   ·omega
   ·exact h4.elim
 have le:E.le E':=⟨λk b hk=>by rw[old (h.dom _ _ hk)];exact hk,λk ver v us hk=>⟨ver,v,us,by rw[old (h.dom _ _ hk)];exact hk,lh _,λ_=>rfl⟩⟩
 have n1:∀i k b,(af9 H.length rows.length)[i]?=some k->Es i=some (.blk b)->E' k=some (.blk b):=λi k b hk he=>by
  obtain⟨_,rfl⟩:=aC4 hk;rw[nw];exact he
 have n2:∀i k ver v us,(af9 H.length rows.length)[i]?=some k->Es i=some (.slc ver v us)->E' k=some (.slc (verO ((aK9 rows.length).getD i .dead)+ver) v us):=λi k ver v us hk he=>by
  obtain⟨_,rfl⟩:=aC4 hk;rw[nw,he,bR1,lI]
 have okn:∀{e:EI}{row:SO},EIok w' (Xo (Fr.of (Xo X0 E H)) Es rows) Es e row->EIok w' (Xo X0 E' (H++new)) E' e (bigO (aK9 rows.length) (af9 H.length rows.length) 0 row):=by
  intro e row hok;have weak:∀{s:SV}{u:Value},R w' (Xo (Fr.of (Xo X0 E H)) Es rows) E0 s u->R w' (Xo X0 E' (H++new)) E0 s u:=λhr=>hr.mono (λ_ _ _=>rfl) (λb _ hb=>hx b hb) (Env.le_refl _)
  cases e with
  |blk b0=>
   cases row with
   |dead=>trivial
   |cells n g T=>
    obtain⟨vs,h1,h2,h3⟩:=hok;exact⟨vs,h1,h2,λj hj=>⟨(h3 j hj).1,aV8 hx n1 n2 (h3 j hj).2⟩⟩
   |scells n g=>
    obtain⟨vs,T,fr,h1,h2,h3,h4⟩:=hok;exact⟨vs,T,fr,h1,λhc=>h2 (hx _ hc),h3,λj hj=>⟨(h4 j hj).1,weak (h4 j hj).2⟩⟩
   |row=>exact hok
   |srow=>exact hok
   |deep=>exact hok
   |mpi=>exact hok
   |mps=>exact hok
   |cus Q=>exact Q.mono (λ_ _ _ _ hc _=>hc) (λb _ hb=>hx b hb) hok
  |slc ver v us=>
   cases row with
   |dead=>trivial
   |cells=>exact hok
   |scells=>exact hok
   |mpi kk tot has val=>
    obtain⟨hz,b1,es,clock,h1,h2,h3⟩:=hok;exact⟨hz,b1,es,clock,h1,h2,h3.over hx⟩
   |mps kd has c m p T' ho=>
    obtain⟨hz,b1,es,clock,h1,h2,d⟩:=hok;exact⟨hz,b1,es,clock,h1,h2,d.over hx _ λs u hu=>aV8 hx n1 n2 hu⟩
   |cus=>exact hok
   |row ver' len n g T=>
    obtain⟨rfl,xs,h2,h3⟩:=hok;exact⟨(lI _).symm,xs,h2,λi j hi hj=>⟨(h3 i j hi hj).1,weak (h3 i j hi hj).2⟩⟩
   |srow ver' len n g=>
    obtain⟨rfl,h2⟩:=hok;exact⟨(lI _).symm,weak h2⟩
   |deep ver' len n c m p g T T' ho=>
    obtain⟨rfl,xs,d⟩:=hok;refine⟨(lI _).symm,xs,d.map hx (λi hi=>by rwa[ae8]at hi) (λi sv' hi=>?_)⟩;rw[aw9]at hi;cases hh:hoAt ho i with
    |none=>rw[hh]at hi;cases hi
    |some sv=>
     rw[hh]at hi;cases hi;exact⟨sv,rfl,λu hu=>aV8 hx n1 n2 hu⟩
 have newb:∀{i e b},Es i=some e->holds e ((H++new).getD (H.length+i) .dead) b->w.heap.size<=b:=λ{i e b} he hh=>by
  rw[getNew (hs.dom _ _ he)]at hh;rcases hs.low i e b he (hhold hh)with h4|h4
  ·exact h4
  ·exact h4.elim
 have oldb:∀{k e b},E k=some e->holds e (H.getD k .dead) b->b<w.heap.size:=λhe hh=>ak3 (h.ok _ _ he) hh
 refine⟨E',le,Rep.keeps hb,hw,⟨h.below.below hb,h.x0,λk e hk=>(h.nm k e hk).le le,λk e hk=>?_,λk e hk=>?_,λk e b hk hh=>?_,λk k' e e' b hk hk' hh hh'=>?_⟩,aV8 hx n1 n2 hr,λ_ hk=>old hk⟩
 ·rw[lx,hlen];rcases split k with hkl|⟨i,rfl⟩
  ·omega
  ·rw[nw]at hk;have:=hs.dom _ _ hk
   omega
 ·rcases split k with hkl|⟨i,rfl⟩
  ·rw[old hkl]at hk;rw[getOld hkl];exact(h.ok k e hk).mono (Rep.keeps hb) hw le λb hh'=>hb.block b (oldb hk hh')
  ·rw[nw]at hk;rw[getNew (hs.dom _ _ hk)];exact okn (hs.ok i e hk)
 ·rcases split k with hkl|⟨i,rfl⟩
  ·rw[old hkl]at hk;rw[getOld hkl]at hh;exact h.low k e b hk hh
  ·rw[nw]at hk;have:=newb hk hh
   have:=h.below.size
   exact .inl (by omega)
 ·rcases split k with hkl|⟨i,rfl⟩
  ·rw[old hkl]at hk;rw[getOld hkl]at hh;rcases split k' with hkl'|⟨i',rfl⟩
   ·rw[old hkl']at hk';rw[getOld hkl']at hh';exact h.inj k k' e e' b hk hk' hh hh'
   ·rw[nw]at hk';have:=newb hk' hh'
    have:=oldb hk hh
    omega
  ·rw[nw]at hk;rcases split k' with hkl'|⟨i',rfl⟩
   ·rw[old hkl']at hk';rw[getOld hkl']at hh';have:=newb hk hh
    have:=oldb hk' hh'
    omega
   ·rw[nw]at hk';rw[getNew (hs.dom _ _ hk)]at hh;rw[getNew (hs.dom _ _ hk')]at hh';rw[hs.inj i i' e e' b hk hk' (hhold hh) (hhold hh')]
def mkNS(f:FuncId){γ:Type}(dec:List SV->Option γ)(args:γ->List SV)(pre:γ->Prop)(res:γ->SV)(rows:γ->List SO):NSpec:=
 ⟨f,λl=>match l.all (ac4 6)with
  |true=>match dec l with
   |some g=>some (aa9.leArgs l (args g)/\Aq (pre g),λd=>big (aK9 (rows g).length) (af9 d (rows g).length) (res g),λd=>(rows g).map (bigO (aK9 (rows g).length) (af9 d (rows g).length) 0))
   |none=>none
  |false=>none⟩
def bE6(P:Program)(fn:Func)(ks:List Nat)(res:SV)(rows:List SO)(s:St):Prop:=
 match resS P fn.ntmps s fn.results.toList with
 |some (p,l)=>p/\match ay1 ks&&(aa4 s.H ks).all aq5 with
  |true=>StLe ⟨[(0,sml (aa4 s.H ks) ks (oneOf l))],(aa4 s.H ks).map (smlO (aa4 s.H ks) ks)⟩ ⟨[(0,res)],rows⟩
  |false=>False
 |none=>False
def retKs(P:Program)(fn:Func)(ks:List Nat)(res:SV)(rows:List SO):SK
 |.exit _,_=>False
 |_,s=>bE6 P fn ks res rows s
def a43(f:FuncId){γ:Type}(dec:List SV->Option γ)(args:γ->List SV)(pre:γ->Prop)(res:γ->SV)(row:γ->SO):FSpec:=
 {f:=f,eff:=false,run:=λl _ nm=>match l.all (ac4 6)with
  | true=>match dec l with
    |some g=>some ⟨aa9.leArgs l (args g)/\Aq (pre g),big [.dead] [nm] (res g),.new (bigO [.dead] [nm] 0 (row g))⟩
    |none=>none
  |false=>none}
def bb4(P:Program)(fn:Func)(k:Nat)(res:SV)(row:SO)(s:St):Prop:=
 match resS P fn.ntmps s fn.results.toList with
 |some (p,l)=>p/\match aq5 (s.H.getD k .dead)with
  |true=>StLe ⟨[(0,sml (aa4 s.H [k]) [k] (oneOf l))],(aa4 s.H [k]).map (smlO (aa4 s.H [k]) [k])⟩ ⟨[(0,res)],[row]⟩
  |false=>False
 |none=>False
def retN(P:Program)(fn:Func)(k:Nat)(res:SV)(row:SO):SK
 |.exit _,_=>False
 |_,s=>bb4 P fn k res row s
theorem aO4{P:Program}{specs:List FSpec}(hspecs:∀s∈specs,aa5 P s){eqs:List (TypeId×List CK)}(heqs:∀t n,(t,n)∈eqs->EqOK P t n)(hm:P.follows .mixedOrders=true)
  {f:FuncId}{fn:Func}{body:Code}(hf:P.funcs[f]?=some fn) (hb:fn.body=some body) (_:al7 (effS specs) body=true) (hent:∀args w,(callFunc f args).run P w=.ok (.enter f args) w)
  {γ:Type}{dec:List SV->Option γ}{args:γ->List SV}{pre:γ->Prop}{res:γ->SV}{row:γ->SO}(A:γ->Ann) (k:γ->Nat) (hlen:∀g,(args g).length<=fn.ntmps)
  (h:∀g,pre g->vc P specs eqs fn.ntmps 0 false (A g) body (retN P fn (k g) (res g) (row g)) ⟨as7 0 (args g),[]⟩):aa5 P (a43 f dec args pre res row):=by
 refine⟨hent,λargs H HF nm y _ _ h=>h,λl H nm y hrun hp w0 X0 E w hrep hfree vals ha=>?_⟩;simp only[a43]at hrun;split at hrun
 case h_2=>cases hrun
 rename_i hpu;split at hrun
 case h_2=>cases hrun
 rename_i g hdec;cases hrun;obtain⟨hle,⟨hpre⟩⟩:=hp;obtain⟨hll,hle⟩:=am1 hle;have hr:=aE2 ha hpu;have hsz:=ha.1;have hxo:Xo (Fr.of (Xo X0 E H)) E0 []=Xo X0 E H:=by
  funext b;apply propext;exact⟨λhb=>hb.elim id (λ⟨k,e,he,_⟩=>(nomatch he)),λhb=>Or.inl hb⟩
 have hT:=am2 fn.ntmps vals (args g) w (Xo X0 E H) E0 (by omega) (hlen g) (λi hi=>bA3 (λ_ hb=>hb) (hle i hi) (hr i (by omega)));refine an2 (w0:=w) (X0:=Fr.of (Xo X0 E H)) (G:=bb4 P fn (k g) (res g) (row g)) hf hb (aZ4 (w0:=w) (X0:=Fr.of (Xo X0 E H)) hspecs heqs hm body (.inl rfl) (λ_=>rfl) (λk hk=>absurd rfl hk) _ _ _ _ (h g hpre) (λe s a w' hk hs=>?walk) _ w ?start) (λs a w' hk _ hs=>?fin)
 case walk=>
  cases e with
  |normal=>exact⟨s,hk,hs⟩
  |ret=>exact⟨s,hk,hs⟩
  |exit id=>exact hk.elim
 case fin=>
   obtain⟨E1,hrep1,htr⟩:=hs;unfold bb4 at hk;split at hk
   case h_2=>exact hk.elim
   rename_i p l hres;obtain⟨hp,hk⟩:=hk;obtain⟨v,hv1,hv2⟩:=aj3 rfl hrep1 htr hres hp;split at hk
   case h_2=>exact hk.elim
   rename_i hal;have hal':(aa4 s.H [k g]).all aq5=true:=by simp only[aa4,xQ,List.map_nil,lao,hal,List.all_nil,Bool.and_self]
   obtain⟨p1,p2⟩:=hrep1.pick (ks:=[k g]) rfl hal';obtain⟨p3,p4⟩:=p1.le (m:=0) hk.2 (λk hk=>absurd rfl hk) (by simp[NmLe,uI (lB _)]);have hsv:=ah1 p4 (λk ver v us he ver' hr=>ax4 (p1.ok k _ he) hr) (ao8 hk.1 0) (bj7 p2 (hrep1.aZ3 hal') hv2);exact⟨v,hv1,v,rfl,Goes.b58 hrep hfree p3 hsv⟩
 case start=>
  refine⟨E0,⟨Bel.refl _ _,λb hb=>⟨hrep.xlt b hb,id⟩,λk e he=>(nomatch he),λk e he=>(nomatch he),λk e he=>(nomatch he),λk e b he=>(nomatch he),λk k' e e' b he=>(nomatch he)⟩,hT.1,aA4.nil _ _ _,λt ht=>?_⟩;rw[hxo];exact hT.2 t ht
theorem bc5{P:Program}{specs:List FSpec}(hspecs:∀s∈specs,aa5 P s){eqs:List (TypeId×List CK)}(heqs:∀t n,(t,n)∈eqs->EqOK P t n)(hm:P.follows .mixedOrders=true)
  {f:FuncId}{fn:Func}{body:Code}(hf:P.funcs[f]?=some fn) (hb:fn.body=some body) (_:al7 (effS specs) body=true) (hent:∀args w,(callFunc f args).run P w=.ok (.enter f args) w)
  {γ:Type}{dec:List SV->Option γ}{args:γ->List SV}{pre:γ->Prop}{res:γ->SV}{rows:γ->List SO}(A:γ->Ann) (ks:γ->List Nat) (hlen:∀g,(args g).length<=fn.ntmps)
  (h:∀g,pre g->vc P specs eqs fn.ntmps 0 false (A g) body (retKs P fn (ks g) (res g) (rows g)) ⟨as7 0 (args g),[]⟩):NewsOK P (mkNS f dec args pre res rows):=by
 refine⟨hent,λl p rs new hrun hp w0 X0 H E w hrep vals ha=>?_⟩;simp only[mkNS]at hrun;split at hrun
 case h_2=>cases hrun
 rename_i hpu;split at hrun
 case h_2=>cases hrun
 rename_i g hdec;cases hrun;obtain⟨hle,⟨hpre⟩⟩:=hp;obtain⟨hll,hle⟩:=am1 hle;have hr:=aE2 ha hpu;have hsz:=ha.1;have hxo:Xo (Fr.of (Xo X0 E H)) E0 []=Xo X0 E H:=by
  funext b;apply propext;exact⟨λhb=>hb.elim id (λ⟨k,e,he,_⟩=>(nomatch he)),λhb=>Or.inl hb⟩
 have hT:=am2 fn.ntmps vals (args g) w (Xo X0 E H) E0 (by omega) (hlen g) (λi hi=>bA3 (λ_ hb=>hb) (hle i hi) (hr i (by omega)));refine an2 (w0:=w) (X0:=Fr.of (Xo X0 E H)) (G:=bE6 P fn (ks g) (res g) (rows g)) hf hb (aZ4 (w0:=w) (X0:=Fr.of (Xo X0 E H)) hspecs heqs hm body (.inl rfl) (λ_=>rfl) (λk hk=>absurd rfl hk) _ _ _ _ (h g hpre) (λe s a w' hk hs=>?walk) _ w ?start) (λs a w' hk _ hs=>?fin)
 case walk=>
  cases e with
  |normal=>exact⟨s,hk,hs⟩
  |ret=>exact⟨s,hk,hs⟩
  |exit id=>exact hk.elim
 case fin=>
   obtain⟨E1,hrep1,htr⟩:=hs;unfold bE6 at hk;split at hk
   case h_2=>exact hk.elim
   rename_i p0 l0 hres;obtain⟨hp,hk⟩:=hk;obtain⟨v,hv1,hv2⟩:=aj3 rfl hrep1 htr hres hp;split at hk
   case h_2=>exact hk.elim
   rename_i hal;rw[lr]at hal;obtain⟨p1,p2⟩:=hrep1.pick (ks:=ks g) hal.1 hal.2;obtain⟨p3,p4⟩:=p1.le (m:=0) hk.2 (λk hk=>absurd rfl hk) (by simp[NmLe,uI (lB _)]);have hsv:=ah1 p4 (λk ver v us he ver' hr=>ax4 (p1.ok k _ he) hr) (ao8 hk.1 0) (bj7 p2 (hrep1.aZ3 hal.2) hv2);exact⟨v,hv1,v,rfl,bE0.of hrep p3 hsv⟩
 case start=>
  refine⟨E0,⟨Bel.refl _ _,λb hb=>⟨hrep.xlt b hb,id⟩,λk e he=>(nomatch he),λk e he=>(nomatch he),λk e he=>(nomatch he),λk e b he=>(nomatch he),λk k' e e' b he=>(nomatch he)⟩,hT.1,aA4.nil _ _ _,λt ht=>?_⟩;rw[hxo];exact hT.2 t ht
def bt2(H:List SO):List SV->Option (List SV)
 | []=>some []
 |s::r=>match pur H 6 s with
  |some s'=>match bt2 H r with
   |some r'=>some (s'::r')
   |none=>none
  |none=>none
def giv(s:FSpec):FSpec:={f:=s.f,eff:=true,run:=λl H nm=>match au8 H (l.flatMap (aQ0 H 6))with
  | some fl=>aJ7 (ad5 H fl) λH'=>match bt2 H' l with
    | some l'=>match s.run l' H' nm with
      | some y=>match y.eff with
        |.keep=>some ⟨y.ask,y.val,.sets fl⟩
        |_=>none
      |none=>none
    |none=>none
  |none=>none}
theorem aJ0{w0 X0 H E w}(h:Rep w0 X0 H E w):∀{l l':List SV},bt2 H l=some l'->l'.length=l.length/\∀i v,i<l.length->R w (Xo X0 E H) E (l.getD i .any) v->R w (Xo X0 E H) E (l'.getD i .any) v
 | [],l',hp=>by cases hp;exact⟨rfl,λi v hi=>absurd hi (ln _)⟩
 |s::r,l',hp=>by
  simp only[bt2]at hp;split at hp
  case h_2=>cases hp
  rename_i s' hs;split at hp
  case h_2=>cases hp
  rename_i r' hr;cases hp;obtain⟨h1,h2⟩:=aJ0 h hr;refine⟨by simp[h1],λi v hi hv=>?_⟩;cases i with
  |zero=>exact up (ap7 h 6 _ _ _ hs hv)
  |succ i=>exact h2 i v (by simpa using hi) hv
theorem cs6{P:Program}{w0:World}{X0:Fr}{s:FSpec}(hs:ah9 P w0 X0 s):ah9 P w0 X0 (giv s):=by
 refine⟨hs.1,λl H HF nm y _ hns hrun=>?_,λl H nm y hrun hask E w hrep hfree vals ha=>?_⟩
 ·exfalso;simp only[giv]at hrun;split at hrun
  case h_2=>cases hrun
  rw[am9]at hrun;split at hrun
  case h_2=>cases hrun
  split at hrun
  case h_2=>cases hrun
  split at hrun
  case h_2=>cases hrun
  cases hrun;exact hns _ rfl
 ·simp only[giv]at hrun;split at hrun
  case h_2=>cases hrun
  rename_i fl hfl;rw[am9]at hrun;split at hrun
  case h_2=>cases hrun
  rename_i l' hl';split at hrun
  case h_2=>cases hrun
  rename_i y' hy';split at hrun
  case h_2=>cases hrun
  rename_i hkeep;cases hrun;obtain⟨g1,g2⟩:=ag6 _ _ _ hrep hfl;obtain⟨p1,p2⟩:=aJ0 g1 hl';refine(hs.2.2 l' (ad5 H fl) nm y' hy' hask E w g1 (λso hso=>by rw[hkeep]at hso;cases hso) vals ⟨by rw[p1];exact ha.1,λi hi=>?_⟩).mono ?_
  ·rw[p1]at hi;exact p2 i _ hi ((ha.2 i hi).mono (λ_ _ _=>rfl) g2 (Env.le_refl _))
  ·rintro e w' ⟨v,rfl,E',le,hk,hx,hr,hv,hE⟩;rw[hkeep]at hx hr hv hE;exact⟨v,rfl,E',le,λb hlt hb=>hk b hlt λhc=>hb (g2 b hlt hc),g2.trans hx,hr,hv,λk hk=>(hE k hk).elim .inl λ⟨_,so,hso⟩=>by cases hso⟩
theorem aC8{P:Program}{s:FSpec}(hs:aa5 P s):aa5 P (giv s):=an5 λw0 X0=>cs6 (hs.at w0 X0)
def peek(H:List SO)(sv:SV):Option SV:=match sv with
  |.own k off=>match H.getD k .dead with
   |.scells n g=>if off<=n then some (.ref (n-off) (λj=>g (off+j)))else none
   |.cells n g _=>if off<=n/\(List.range n).all (λi=>ac4 6 (g i))=true then some (.ref (n-off) (λj=>g (off+j)))else none
   |_=>none
  |.osl k ver=>match H.getD k .dead with
   |.srow ver' len n g=>if ver=ver' then some (.sl len n g)else none
   |.row ver' len n g _=>if ver=ver' then some (.sl len n g)else none
   |.deep ver' len n c m p g _ _ ho=>match ho with
    |none=>if ver=ver' then some (.sl len n (bi5 c m p g))else none
    |some _=>none
   |_=>none
  |.ownAt ..=>none
  |.win k ver n lo len=>match H.getD k .dead with
   |.srow ver' _ n' g=>if ver=ver'/\n=n' then some (.sl len n (λi j=>g (lo+i) j))else none
   |.row ver' _ n' g _=>if ver=ver'/\n=n' then some (.sl len n (λi j=>g (lo+i) j))else none
   |.deep ver' _ n' c m p g _ _ ho=>match ho with
    |none=>if ver=ver'/\n=n' then some (.sl len n (λi j=>bi5 c m p g (lo+i) j))else none
    |some _=>none
   |_=>none
  |s=>match ac4 6 s with
   |true=>some s
   |false=>none
theorem bd1{w0 X0 H E w}(h:Rep w0 X0 H E w){k ver:Nat}{v:Value}{us:Nat->Option Nat}(he:E k=some (.slc ver v us)){ver' len n:Nat}{G:Nat->Nat->SV}
  (hs:(∃g T,H.getD k .dead=.row ver' len n g T/\G=g)\/(∃g,H.getD k .dead=.srow ver' len n g/\G=g)\/∃c m p g T T',H.getD k .dead=.deep ver' len n c m p g T T' none/\G=bi5 c m p g):
  ver=ver'/\R w (λ_=>False) E0 (.sl len n G) v:=by
 have hok:=h.ok k _ he;have weak:∀{s:SV}{v:Value},R w (Xo X0 E H) E0 s v->R w (λ_=>False) E0 s v:=λh=>h.mono (λ_ _ _=>rfl) (λb _ hb=>hb.elim) (Env.le_refl _)
 rcases hs with⟨g,T,hk,rfl⟩|⟨g,hk,rfl⟩|⟨c,m,p,g,T,T',hk,rfl⟩<;>rw[hk]at hok
 ·obtain⟨h1,xs,h2,h3⟩:=hok;exact⟨h1,h2.toSl (T:=T) (λb _ hb=>hb) λi j hi hj=>⟨(h3 i j hi hj).1,weak (h3 i j hi hj).2⟩⟩
 ·exact⟨hok.1,weak hok.2⟩
 ·obtain⟨h1,xs,d⟩:=hok;refine⟨h1,d.own.toSl (T:=T) (λb _ hb=>hb) λi j hi hj=>?_⟩;cases j with
  |succ j=>exact⟨(d.rest i (j+1) hi (xF _) hj).1,weak (d.rest i (j+1) hi (xF _) hj).2⟩
  |zero=>
   obtain⟨g1,ys,g2,g3⟩:=d.inn i hi rfl;rw[lV];refine⟨?_,g2.toSl (T:=T') (λb _ hb=>hb) λi' j' hi' hj'=>⟨(g3 i' j' hi' hj').1,weak (g3 i' j' hi' hj').2⟩⟩;obtain⟨a,a2,a3,e⟩:=g2.slice;rw[e];rfl
theorem bA6{w0 X0 H E w}(h:Rep w0 X0 H E w)(sv sv':SV)(v:Value)(hp:peek H sv=some sv')(hr:R w (Xo X0 E H) E sv v):R w (λ_=>False) E0 sv' v:=by
  have weak:∀{s:SV}{v:Value},R w (Xo X0 E H) E0 s v->R w (λ_=>False) E0 s v:=λh=>h.mono (λ_ _ _=>rfl) (λb _ hb=>hb.elim) (Env.le_refl _)
  have pu:∀{s:SV}{v:Value},R w (Xo X0 E H) E s v->(match ac4 6 s with
   |true=>some s
   |false=>none)=some sv'->R w (λ_=>False) E0 sv' v:=λhr hp=>by
   split at hp
   ·rename_i hb;cases hp;exact weak (ae6 6 _ _ hb hr)
   ·cases hp
  have old:∀{k ver ver' v' us},E k=some (.slc ver' v' us)->ver<ver'->∀{G:Nat->Nat->SV}{len n:Nat},((∃g T,H.getD k .dead=.row ver len n g T/\G=g)\/(∃g,H.getD k .dead=.srow ver len n g/\G=g)\/∃c m p g T T',H.getD k .dead=.deep ver len n c m p g T T' none/\G=bi5 c m p g)->False:=λhe hl G len n hs=>by
   have:=(bd1 h he hs).1
   omega
  have win:∀{k ver n lo len a a0 len0 cap0 us len1}{G:Nat->Nat->SV},E k=some (.slc ver (.slice a0 len0 cap0) us)->lo+len<=len0->(cap0-lo≠0->a=a0.map (·.add (lo*n)))->
    ((∃g T,H.getD k .dead=.row ver len1 n g T/\G=g)\/(∃g,H.getD k .dead=.srow ver len1 n g/\G=g)\/∃c m p g T T',H.getD k .dead=.deep ver len1 n c m p g T T' none/\G=bi5 c m p g)->
    R w (λ_=>False) E0 (.sl len n (λi j=>G (lo+i) j)) (.slice a len (cap0-lo)):=by
   intro k ver n lo len a a0 len0 cap0 us len1 G he hl ha hs;have hr2:=(bd1 h he hs).2;by_cases hz:len=0
   ·subst hz;exact .sl0
   ·cases hr2 with
    |sl0=>omega
    |sl hb hX hc hlc ho hr=>
     rename_i b o c T fr;rw[ha (by omega)];have hle:=lk n hl;rw[lL]at hle;have hadd:(some (⟨b,o,none⟩:Addr)).map (·.add (lo*n))=some ⟨b,o+lo*n,none⟩:=by rw[lD];exact congrArg some (Addr.add_lit b o _)
     rw[hadd];have e1:∀i j,o+lo*n+i*n+j=o+(lo+i)*n+j:=λi j=>by rw[lL];omega
     refine .sl hb hX (by omega) (by omega) (λi j hi hj=>?_) λi j hi hj=>?_
     ·rw[e1];exact ho _ _ (by omega) hj
     ·rw[e1];exact hr _ _ (by omega) hj
  cases hr with
  |any=>exact pu .any hp
  |int=>exact pu .int hp
  |bool=>exact pu .bool hp
  |lit=>exact pu .lit hp
  |str=>exact pu .str hp
  |nilfn=>exact pu .nilfn hp
  |cap0=>exact pu .cap0 hp
  |fn hs hr=>exact pu (.fn hs hr) hp
  |fnb hs hr=>exact pu (.fnb hs hr) hp
  |agg hs ho hr=>exact pu (.agg hs ho hr) hp
  |tup hs hr=>exact pu (.tup hs hr) hp
  |sl0=>exact pu .sl0 hp
  |sl hb hX hc hl ho hr=>exact pu (.sl hb hX hc hl ho hr) hp
  |ref hb hX hc ho hr=>exact pu (.ref hb hX hc ho hr) hp
  |own he=>
   rename_i k off b;simp only[peek]at hp;have hok:=h.ok k _ he;generalize H.getD k .dead=so at hp hok;cases so<;>simp only[reduceCtorEq]at hp
   ·rename_i n g T;obtain⟨⟨ha,hall⟩,rfl⟩:=aa0 hp;obtain⟨vs,h1,h2,h3⟩:=hok;exact .ref h1 (λhb=>hb) (by omega) (λj hj=>(h3 (off+j) (by omega)).1) λj hj=>weak (ae6 6 _ _ (ad1 hall (by omega)) (h3 (off+j) (by omega)).2)
   ·rename_i n g;obtain⟨ha,rfl⟩:=aa0 hp;obtain⟨vs,T,fr,h1,h2,h3,h4⟩:=hok;exact .ref h1 (λhb=>hb) (by omega) (λj hj=>(h4 (off+j) (by omega)).1) λj hj=>weak (h4 (off+j) (by omega)).2
  |osl he hv=>
   rename_i k ver us;simp only[peek]at hp;generalize hk:H.getD k .dead=so at hp;cases so<;>simp only[reduceCtorEq]at hp
   ·obtain⟨rfl,rfl⟩:=aa0 hp;exact(bd1 h he (.inl ⟨_,_,hk,rfl⟩)).2
   ·obtain⟨rfl,rfl⟩:=aa0 hp;exact(bd1 h he (.inr (.inl ⟨_,hk,rfl⟩))).2
   ·split at hp
    case h_2=>cases hp
    obtain⟨rfl,rfl⟩:=aa0 hp;exact(bd1 h he (.inr (.inr ⟨_,_,_,_,_,_,hk,rfl⟩))).2
  |oslOld he hlt hv=>
   rename_i k ver ver' v' us;simp only[peek]at hp;generalize hk:H.getD k .dead=so at hp;cases so<;>simp only[reduceCtorEq]at hp
   ·obtain⟨rfl,rfl⟩:=aa0 hp;exact(old he hlt (.inl ⟨_,_,hk,rfl⟩)).elim
   ·obtain⟨rfl,rfl⟩:=aa0 hp;exact(old he hlt (.inr (.inl ⟨_,hk,rfl⟩))).elim
   ·split at hp
    case h_2=>cases hp
    obtain⟨rfl,rfl⟩:=aa0 hp;exact(old he hlt (.inr (.inr ⟨_,_,_,_,_,_,hk,rfl⟩))).elim
  |ownAt=>simp[peek]at hp
  |con=>exact pu .con hp
  |slP=>simp[peek,ac4]at hp
  |refP=>simp[peek,ac4]at hp
  |ifc ho hr=>exact pu (.ifc ho hr) hp
  |pin=>simp[peek,ac4]at hp
  |part=>simp[peek,ac4]at hp
  |partOld=>simp[peek,ac4]at hp
  |omap=>simp[peek,ac4]at hp
  |omapOld=>simp[peek,ac4]at hp
  |ownAtOld=>simp[peek]at hp
  |win he hl ha h0=>
   rename_i k ver n lo len a a0 len0 cap0 us;simp only[peek]at hp;generalize hk:H.getD k .dead=so at hp;cases so<;>simp only[reduceCtorEq]at hp
   ·obtain⟨⟨rfl,rfl⟩,rfl⟩:=aa0 hp;exact win he hl ha (.inl ⟨_,_,hk,rfl⟩)
   ·obtain⟨⟨rfl,rfl⟩,rfl⟩:=aa0 hp;exact win he hl ha (.inr (.inl ⟨_,hk,rfl⟩))
   ·split at hp
    case h_2=>cases hp
    obtain⟨⟨rfl,rfl⟩,rfl⟩:=aa0 hp;exact win he hl ha (.inr (.inr ⟨_,_,_,_,_,_,hk,rfl⟩))
  |nilsl=>exact pu .nilsl hp
  |slN hr=>exact pu (.slN hr) hp
  |winOld he hlt hv=>
   rename_i k ver ver' v' n lo len us;simp only[peek]at hp;generalize hk:H.getD k .dead=so at hp;cases so<;>simp only[reduceCtorEq]at hp
   ·obtain⟨⟨rfl,rfl⟩,rfl⟩:=aa0 hp;exact(old he hlt (.inl ⟨_,_,hk,rfl⟩)).elim
   ·obtain⟨⟨rfl,rfl⟩,rfl⟩:=aa0 hp;exact(old he hlt (.inr (.inl ⟨_,hk,rfl⟩))).elim
   ·split at hp
    case h_2=>cases hp
    obtain⟨⟨rfl,rfl⟩,rfl⟩:=aa0 hp;exact(old he hlt (.inr (.inr ⟨_,_,_,_,_,_,hk,rfl⟩))).elim
theorem bX2{H HF:List SO}(he:Ext H HF){sv sv':SV}(hp:peek H sv=some sv'):peek HF sv=some sv':=by
 cases sv<;>simp only[peek,reduceCtorEq]at hp⊢
 case own k off=>
  generalize hk:H.getD k .dead=so at hp;cases so<;>simp only[reduceCtorEq]at hp<;>rw[he k (by rw[hk];simp),hk]<;>exact hp
 case osl k ver=>
  generalize hk:H.getD k .dead=so at hp;cases so<;>simp only[reduceCtorEq]at hp<;>rw[he k (by rw[hk];simp),hk]<;>exact hp
 case win k ver n lo len=>
  generalize hk:H.getD k .dead=so at hp;cases so<;>simp only[reduceCtorEq]at hp<;>rw[he k (by rw[hk];simp),hk]<;>exact hp
 all_goals exact hp
def ay9(H:List SO):List SV->Option (List SV)
 | []=>some []
 |s::r=>match peek H s with
  |some s'=>match ay9 H r with
   |some r'=>some (s'::r')
   |none=>none
  |none=>none
theorem aC1{w0 X0 H E w}(h:Rep w0 X0 H E w):∀{l l':List SV},ay9 H l=some l'->l'.length=l.length/\∀i v,i<l.length->R w (Xo X0 E H) E (l.getD i .any) v->R w (λ_=>False) E0 (l'.getD i .any) v
 | [],l',hp=>by cases hp;exact⟨rfl,λi v hi=>absurd hi (ln _)⟩
 |s::r,l',hp=>by
  simp only[ay9]at hp;split at hp
  case h_2=>cases hp
  rename_i s' hs;split at hp
  case h_2=>cases hp
  rename_i r' hr;cases hp;obtain⟨h1,h2⟩:=aC1 h hr;refine⟨by simp[h1],λi v hi hv=>?_⟩;cases i with
  |zero=>exact bA6 h _ _ _ hs hv
  |succ i=>exact h2 i v (by simpa using hi) hv
theorem aP4{H HF:List SO}(he:Ext H HF):∀{l l':List SV},ay9 H l=some l'->ay9 HF l=some l'
 | [],l',hp=>hp
 |s::r,l',hp=>by
  simp only[ay9]at hp⊢;split at hp
  case h_2=>cases hp
  rename_i s' hs;split at hp
  case h_2=>cases hp
  rename_i r' hr;cases hp;rw[bX2 he hs,aP4 he hr]
open Go.RowKit
def TI(N:Nat)(X:Nat->Prop)(τ:Tmps)(a:Act)(W:World):Prop:=a.tmps.size=N/\a.defers=[]/\∀t<N,R W X E0 (ac5 τ t) (a.tmps.getD t undef)
def XB(n:Nat)(X B:Nat->Prop)(W:World)(b:Nat):Prop:=b<W.heap.size/\¬ B b/\(n<=b\/X b)
def SI(N n:Nat)(X:Nat->Prop)(J:Nat->(Nat->Prop)->World->Prop)(τ:Tmps)(i:Nat)(a:Act)(W:World):Prop:=∃B,J i B W/\TI N (XB n X B W) τ a W
def cj9(J:Nat->(Nat->Prop)->World->Prop):Prop:=(∀i B W W',J i B W->Below W.heap.size W W'->J i (λb=>B b\/(W.heap.size<=b/\b<W'.heap.size)) W')/\∀i B W,J i B W->∀b,B b->b<W.heap.size
section
variable {P:Program}{specs:List FSpec}{eqs:List (TypeId×List CK)}{N n:Nat}{X:Nat->Prop}{J:Nat->(Nat->Prop)->World->Prop}
theorem TI.eval{τ:Tmps}{a:Act}{W:World}{X':Nat->Prop}(h:TI N X' τ a W)(x:Operand):R W X' E0 (evO N τ x) (a.eval x):=
 ag8 (n0:=none) (w:=W) (X:=X') (E:=E0) (N:=N) (τ:=τ) (a:=a) ⟨h.1,by rw[h.2.1];exact aA4.nil _ _ _,h.2.2⟩ x
end
def purT:Tmps->Tmps
 | []=>[]
 |(t,s)::r=>match ac4 6 s with
  |true=>(t,s)::purT r
  |false=>(t,.any)::purT r
theorem aQ4:∀(τ:Tmps)(t:Nat),ac5 (purT τ) t=if ac4 6 (ac5 τ t)=true then ac5 τ t else .any
 | [],t=>by simp only[purT,ac5];exact(ite_self _).symm
 |(u,s)::r,t=>by
  simp only[purT];split<;>rename_i hp<;>simp only[ac5]<;>split
  ·first|(rw[ll hp])|rfl
  ·exact aQ4 r t
  ·first|(rw[lu (by rw[hp];simp)])|rfl
  ·exact aQ4 r t
structure YLoop:Type 1 where
 γ:Type
 pre:γ->Prop
 τ:γ->Tmps
 idx:γ->Nat
 meas:γ->Nat
 ann:γ->Ann:=λ_=>A0
 tag:γ->Nat:=λ_=>0
structure YAnn:Type 1 where
 loops:List (Nat×(Nat->YLoop))
 ys:List (Nat×Nat)
section
variable {P:Program}{specs:List FSpec}{eqs:List (TypeId×List CK)}{N n:Nat}{X:Nat->Prop}{J:Nat->(Nat->Prop)->World->Prop}
theorem SI.pur{i:Nat}{B:Nat->Prop}{W:World}(hJ:cj9 J)(hj:J i B W){s':St}{a':Act}{W':World}(h:StR W ⟨XB n X B W,λ_=>False,E0,false⟩ N s' a' W'):SI N n X J (purT s'.τ) i a' W':=by
 obtain⟨E',hrep,htr⟩:=h;have hbel:Below W.heap.size W W':=hrep.below.all;refine⟨_,hJ.1 i B W W' hj hbel,htr.1,htr.2.1.1 rfl,λt ht=>?_⟩;rw[aQ4];split
 ·rename_i hp;refine(ae6 6 _ _ hp (htr.2.2 t ht)).mono (λ_ _ _=>rfl) (λb hlt hb=>?_) (Env.le_refl _);obtain⟨b1,b2,b3⟩:=hb;exact .inl ⟨lz λhc=>b2 (.inr ⟨by omega,b1⟩),λhc=>b2 (.inl hc),b3⟩
 ·exact .any
end
end Sx
namespace Hid
open Go.RowKit Go.Conc
class LoopOK where
 ok:Loop->Prop
 set:Prop
 fn:FuncId->Prop
class Junk where
 J:Nat->Option Obj
 G:Nat
variable [LoopOK] [Junk]
inductive Jk:Obj->Prop
 |view (a:Addr) (u:TypeId):Jk (.view a u)
 |pending (c:Array Value) (u:TypeId):Jk (.pending c u)
 |loop (r:Loop):Jk (.loop r)
def ObR(c l:Obj):Prop:=c=l\/(∃T c',l=.cells #[] T (0,0)/\c=.cells c' T (0,0))\/(∃cap cl s r cl' s' r',c=.chan cap #[] cl s r false/\l=.chan cap #[] cl' s' r' false)\/((∃a u,l=.view a u)/\Jk c)
def U(b:Nat)(l:Option Obj):Option Obj:=match l with
 |some (.view _ _)=>Junk.J b
 |o=>o
theorem U_eq{b:Nat}{l:Option Obj}(h:∀a u,l≠some (.view a u)):U b l=l:=by
 unfold U;split
 ·exact absurd rfl (h _ _)
 ·rfl
structure WR(C L:World):Prop where
 os:C.os=L.os
 out:C.output=L.output
 size:C.heap.size=L.heap.size
 blk:∀(b:Nat)(o:Obj),L.heap[b]?=some o->∃o':Obj,C.heap[b]?=some o'/\ObR o' o
 nv:∀(b:Nat)(a:Addr)(u:TypeId),L.heap[b]?=some (.view a u)->a.block=b/\Junk.G<=b
 np:∀(b:Nat)(c:Array Value)(u:TypeId),L.heap[b]?≠some (.pending c u)
 lp:∀(b:Nat)(r:Loop),L.heap[b]?=some (.loop r)->LoopOK.ok r
def TR(C L:World)(m:Nat):Prop:=∀i<m,C.tape (C.drawn+i)=L.tape (L.drawn+i)
def EvOK(L:World)(e:Event):Prop:=match e.loc with
 |.cell a=>∃c T fz,L.heap[a.block]?=some (.cells c T fz)/\a.off<c.size
 |.obj r=>∃o,L.heap[r]?=some o/\(∀c T fz,o≠.cells c T fz)/\(¬ LoopOK.set->e.write=false/\e.sync=o.isChan)
 |.mark .noRoom=>True
 |_=>False
structure Stay(L L':World):Prop where
 size:L.heap.size<=L'.heap.size
 row:∀(b:Nat) c T fz,L.heap[b]?=some (Obj.cells c T fz)->∃c' fz',L'.heap[b]?=some (.cells c' T fz')/\c'.size=c.size
 obj:∀(b:Nat) o,L.heap[b]?=some o->(∀c T fz,o≠.cells c T fz)->∃o',L'.heap[b]?=some o'/\∀c T fz,o'≠.cells c T fz
 keep:¬ LoopOK.set->∀(b:Nat) o,L.heap[b]?=some o->(∀c T fz,o≠.cells c T fz)->L'.heap[b]?=some o
theorem Stay.refl(L:World):Stay L L:=⟨lh _,λ_ c _ fz h=>⟨c,fz,h,rfl⟩,λ_ o h hn=>⟨o,h,hn⟩,λ_ _ _ h _=>h⟩
theorem Stay.trans{a b c:World}(h:Stay a b)(k:Stay b c):Stay a c:=by
 refine⟨lU h.size k.size,λi x T fz hx=>?_,λi o ho hn=>?_,λhs i o ho hn=>k.keep hs i o (h.keep hs i o ho hn) hn⟩
 ·obtain⟨x1,f1,h1,h2⟩:=h.row i x T fz hx;obtain⟨x2,f2,h3,h4⟩:=k.row i x1 T f1 h1;exact⟨x2,f2,h3,h4.trans h2⟩
 ·obtain⟨o1,h1,h2⟩:=h.obj i o ho hn;exact k.obj i o1 h1 h2
theorem EvOK.stay{L L':World}(h:Stay L L'){e:Event}(he:EvOK L e):EvOK L' e:=by
 unfold EvOK at *
 split at he
 ·obtain⟨c,T,fz,h1,h2⟩:=he;obtain⟨c',fz',h3,h4⟩:=h.row _ c T fz h1;exact⟨c',T,fz',h3,by omega⟩
 ·obtain⟨o,h1,h2,h3⟩:=he;by_cases hs:LoopOK.set
  ·obtain⟨o',h3,h4⟩:=h.obj _ o h1 h2;exact⟨o',h3,h4,λhn=>absurd hs hn⟩
  ·exact⟨o,h.keep hs _ o h1 h2,h2,h3⟩
 ·trivial
 ·exact he.elim
inductive NiceH:Halt->Prop
 |panic (v:Value):NiceH (.panic v)
 |uns (u:Unsupported) (h:∀b,u≠.initOrder b):NiceH (.unsupported u)
 |stuck (s:String):NiceH (.stuck s)
inductive Tame(p P:Program){α:Type}:Sem α->Prop
 |pure (a:α):Tame p P (.pure a)
 |load {a k} (h:∀v,Tame p P (k v)):Tame p P (.load .plain a k)
 |store {a v k} (h:Tame p P k):Tame p P (.store .plain a v k)
 |new {o k} (nv:∀a u,o≠.view a u) (np:∀c u,o≠.pending c u) (nl:∀r,o=.loop r->LoopOK.ok r) (h:∀r,Tame p P (k r)):Tame p P (.new o k)
 |getObj {r k} (h:∀o,(∀r,o=.loop r->LoopOK.ok r)->Tame p P (k o)) (hv:∀a u,(∀c,Jk c->k c=k (.view a u))\/∀w es x w' es',(k (.view a u)).runT p w es≠(.ok x w',es')) (hc:∀cap cl s r cl' s' r',k (.chan cap #[] cl s r false)=k (.chan cap #[] cl' s' r' false)):Tame p P (.getObj r k)
 |setObj {r o k} (hs:LoopOK.set) (nv:∀a u,o≠.view a u) (np:∀c u,o≠.pending c u) (nc:∀c T fz,o≠.cells c T fz) (nl:∀r,o=.loop r->LoopOK.ok r) (h:Tame p P k):Tame p P (.setObj r o k)
 |choose {q k} (h:∀n,Tame p P (k n)):Tame p P (.choose q k)
 |program {k} (e:k P=k p) (h:Tame p P (k p)):Tame p P (.program k)
 |noRoom {k} (h:Tame p P k):Tame p P (.mark .noRoom k)
 |shape {r k} (h:∀o,Tame p P (k o)) (hp:∀T,(∀w es a w' es',(k (some (T,0))).runT p w es≠(.ok a w',es'))\/∀n',k (some (T,n'))=k (some (T,0))):Tame p P (.shape r k)
 |shapeG {r k} (hr:r<p.globals.size) (h:∀o,Tame p P (k o)):Tame p P (.shape r k)
 |frozen {a k} (h:∀b,Tame p P (k b)):Tame p P (.frozen a k)
 |halt {x} (h:NiceH x):Tame p P (.halt x)
omit [Junk]in
theorem Tame.bind{p P:Program}{α β:Type}{s:Sem α}{f:α->Sem β}(h:Tame p P s)(hf:∀a,Tame p P (f a)):Tame p P (s.bind f):=by
 induction h with
 |pure a=>exact hf a
 |load _ ih=>exact .load ih
 |store _ ih=>exact .store ih
 |new nv np nl _ ih=>exact .new nv np nl ih
 |getObj _ hv hc ih=>
  refine .getObj (λo ho=>ih o ho) (λa u=>(hv a u).imp (λh c hc=>by rw[h c hc]) λh w es x w' es' hr=>?_) λcap cl s r cl' s' r'=>by rw[hc cap cl s r cl' s' r']
  rw[Sem.runT_bind']at hr;split at hr
  ·rename_i a1 w1 es1 h1;exact h _ _ _ _ _ h1
  ·cases hr
 |setObj hs nv np nc nl _ ih=>exact .setObj hs nv np nc nl ih
 |choose _ ih=>exact .choose ih
 |program e _ ih=>exact .program (by rw[e]) ih
 |noRoom _ ih=>exact .noRoom ih
 |shape _ hp ih=>
  refine .shape ih λT=>(hp T).imp (λh w es a w' es' hr=>?_) λh n'=>by rw[h]
  rw[Sem.runT_bind']at hr;split at hr
  ·rename_i a1 w1 es1 h1;exact h _ _ _ _ _ h1
  ·cases hr
 |shapeG hr _ ih=>exact .shapeG hr ih
 |frozen _ ih=>exact .frozen ih
 |halt h=>exact .halt h
theorem WR.cell{C L:World}(h:WR C L){a:Addr}{v:Value}(hv:L.cell? a=some v):C.cell? a=some v/\C.heap[a.block]?=L.heap[a.block]?/\∃c T fz,L.heap[a.block]?=some (.cells c T fz)/\a.off<c.size:=by
 unfold World.cell? at hv⊢;cases ho:L.heap[a.block]? with
 |none=>rw[ho]at hv;cases hv
 |some o=>
  obtain⟨o',h1,h2⟩:=h.blk _ _ ho;rw[ho]at hv;rcases h2 with rfl|⟨T,c',rfl,rfl⟩|⟨cap,cl,s,r,cl',s',r',rfl,rfl⟩|⟨⟨_,_,rfl⟩,_⟩
  ·rw[h1];refine⟨hv,rfl,?_⟩;cases o' with
   |cells c T fz=>
    refine⟨c,T,fz,rfl,?_⟩;simp only at hv
    split at hv
    ·cases hv
    ·exact(li.1 hv).1
   |_=>cases hv
  ·simp only at hv
   split at hv
   ·cases hv
   ·simp at hv
  ·cases hv
  ·cases hv
structure Out(C L C' L':World)(es es':Array Event):Prop where
 wr:WR C' L'
 stay:Stay L L'
 tc:C'.tape=C.tape
 tl:L'.tape=L.tape
 dr:L.drawn<=L'.drawn/\C'.drawn=C.drawn+(L'.drawn-L.drawn)
 heq:∀b:Nat,C.heap[b]?=L.heap[b]?->C'.heap[b]?=L'.heap[b]?
 old:∀b:Nat,C.heap[b]?=U b L.heap[b]?->C'.heap[b]?=U b L'.heap[b]?
 hid:∀(b:Nat) T fz,L.heap[b]?=some (.cells #[] T fz)->C'.heap[b]?=C.heap[b]?
 evs:∃ns,es'=es++ns/\∀e∈ns,EvOK L' e
 obj:¬ LoopOK.set->∀(b:Nat) o,L.heap[b]?=some o->(∀c T fz,o≠.cells c T fz)->L'.heap[b]?=some o/\C'.heap[b]?=C.heap[b]?
theorem Out.refl{C L:World}(h:WR C L)(es:Array Event):Out C L C L es es:=⟨h,.refl L,rfl,rfl,⟨lh _,by omega⟩,λ_=>id,λ_=>id,λ_ _ _ _=>rfl,⟨#[],by simp,λe he=>by simp at he⟩,λ_ _ _ h _=>⟨h,rfl⟩⟩
theorem Out.cons{C L C1 L1 C' L':World}{es es1 es':Array Event}(h:Out C L C1 L1 es es1)(k:Out C1 L1 C' L' es1 es'):Out C L C' L' es es':=by
 refine⟨k.wr,h.stay.trans k.stay,k.tc.trans h.tc,k.tl.trans h.tl,⟨lU h.dr.1 k.dr.1,?_⟩,λb e=>k.heq b (h.heq b e),λb e=>k.old b (h.old b e),λb T fz hb=>?_,?_,λhs b o hb hn=>⟨(k.obj hs b o (h.obj hs b o hb hn).1 hn).1,(k.obj hs b o (h.obj hs b o hb hn).1 hn).2.trans (h.obj hs b o hb hn).2⟩⟩
 ·have:=h.dr.1;have:=h.dr.2;have:=k.dr.1;have:=k.dr.2;omega
 ·obtain⟨c',fz',h1,h2⟩:=h.stay.row b _ _ _ hb;obtain rfl:c' = #[]:=xZ.1 (by simpa using h2)
  exact(k.hid b T fz' h1).trans (h.hid b T fz hb)
 ·obtain⟨n1,e1,h1⟩:=h.evs;obtain⟨n2,e2,h2⟩:=k.evs;refine⟨n1++n2,by rw[e2,e1,Array.append_assoc],λe he=>?_⟩;rcases Array.mem_append.1 he with he|he
  ·exact(h1 e he).stay k.stay
  ·exact h2 e he
theorem aM2{C L:World}(h:WR C L){es:Array Event}{e:Event}(he:EvOK L e):Out C L C L es (es.push e):=
 ⟨h,.refl L,rfl,rfl,⟨lh _,by omega⟩,λ_=>id,λ_=>id,λ_ _ _ _=>rfl,⟨#[e],by simp,λx hx=>by simp at hx;subst hx;exact he⟩,λ_ _ _ h _=>⟨h,rfl⟩⟩
theorem heap_set{w:World}{a:Addr}{v:Value}(b:Nat):(w.setCell a v).heap[b]?=if b=a.block then(w.heap[b]?).map (λ| .cells c elem frozen=> .cells (if a.spot.isSome then c else c.setIfInBounds a.off v) elem frozen|o=>o)else w.heap[b]?:=by
 unfold World.setCell;simp only[uh];by_cases h:b=a.block
 ·subst h;rw[ll rfl,ll rfl];rfl
 ·rw[lu h,lu (λhc=>h hc.symm)]
theorem bL3{C L:World}(h:WR C L){es:Array Event}{a:Addr}{u v:Value}(hu:L.cell? a=some u):Out C L (C.setCell a v) (L.setCell a v) es (es.push ⟨.cell a,true,false⟩):=by
 obtain⟨_,hbe,c,T,fz,hb,hoff⟩:=h.cell hu;have row:∀(b:Nat) x T fz,L.heap[b]?=some (Obj.cells x T fz)->∃x' fz',(L.setCell a v).heap[b]?=some (.cells x' T fz')/\x'.size=x.size:=λb x T fz hx=>by
  rw[heap_set,hx];by_cases hc:b=a.block
  ·rw[ll hc];refine⟨_,fz,rfl,?_⟩;split<;>simp
  ·rw[lu hc];exact⟨x,fz,rfl,rfl⟩
 refine⟨⟨h.os,h.out,by simp[World.setCell,h.size],λb o ho=>?_,λb x T hx=>?_,λb x T hx=>?_,λb r hx=>?_⟩,⟨by simp[World.setCell],row,λb o ho hn=>?_,λ_ b o ho hn=>?_⟩,rfl,rfl,⟨lh _,by simp[World.setCell]⟩,λb e=>by rw[heap_set,heap_set,e],λb e=>?_,λb T fz hb'=>?_,⟨#[⟨.cell a,true,false⟩],by simp,λe he=>?_⟩,λ_ b o hb' hn=>?_⟩
 ·rw[heap_set]at ho;rw[heap_set];by_cases hc:b=a.block
  ·subst hc;rw[ll rfl]at ho⊢;rw[hbe,ho];exact⟨o,rfl,.inl rfl⟩
  ·rw[lu hc]at ho⊢;exact h.blk b o ho
 ·rw[heap_set]at hx;split at hx
  ·cases hL:L.heap[b]? with
   |none=>rw[hL]at hx;cases hx
   |some o=>
    rw[hL]at hx;simp only[lD,sk]at hx;cases o with
    |view x' T'=>cases hx;exact h.nv b _ _ hL
    |_=>simp at hx
  ·exact h.nv b x T hx
 ·rw[heap_set]at hx;split at hx
  ·cases hL:L.heap[b]? with
   |none=>rw[hL]at hx;cases hx
   |some o=>
    rw[hL]at hx;simp only[lD,sk]at hx;cases o with
    |pending x' T'=>exact h.np b x' T' hL
    |_=>simp at hx
  ·exact h.np b x T hx
 ·rw[heap_set]at hx;split at hx
  ·cases hL:L.heap[b]? with
   |none=>rw[hL]at hx;cases hx
   |some o=>
    rw[hL]at hx;simp only[lD,sk]at hx;cases o with
    |loop x'=>cases hx;exact h.lp b _ hL
    |_=>simp at hx
  ·exact h.lp b r hx
 ·rw[heap_set];by_cases hc:b=a.block
  ·rw[ll hc,ho];refine⟨o,?_,hn⟩;cases o with
   |cells x T fz=>exact absurd rfl (hn x T fz)
   |_=>rfl
  ·rw[lu hc];exact⟨o,ho,hn⟩
 ·rw[heap_set,lu]
  ·exact ho
  ·intro hc;subst hc;rw[hb]at ho;cases ho;exact hn _ _ _ rfl
 ·rw[heap_set,heap_set];by_cases hc:b=a.block
  ·subst hc;rw[ll rfl,ll rfl,hbe,hb];exact(U_eq λ_ _ hc=>by cases hc).symm
  ·rw[lu hc,lu hc];exact e
 ·rw[heap_set,lu];intro hc;subst hc;rw[hb]at hb';cases hb';simp at hoff
 ·simp at he;subst he;obtain⟨x',fz',h1,h2⟩:=row _ _ _ _ hb;exact⟨x',T,fz',h1,by omega⟩
 ·rw[heap_set,heap_set,lu,lu]
  ·exact⟨hb',rfl⟩
  ·intro hc;subst hc;rw[hb]at hb';cases hb';exact hn _ _ _ rfl
  ·intro hc;subst hc;rw[hb]at hb';cases hb';exact hn _ _ _ rfl
theorem bL5{C L:World}(h:WR C L){es:Array Event}{o:Obj}(nv:∀a u,o≠.view a u)(np:∀c u,o≠.pending c u)(nl:∀r,o=.loop r->LoopOK.ok r):Out C L {C with heap:=C.heap.push o} {L with heap:=L.heap.push o} es es:=by
 have old:∀(w:World)(b:Nat),b<w.heap.size->({w with heap:=w.heap.push o}:World).heap[b]?=w.heap[b]?:=λw b hb=>by
  show(w.heap.push o)[b]?=_;rw[xq,lu (by omega)]
 have lt:∀{w:World}{b:Nat}{x:Obj},w.heap[b]?=some x->b<w.heap.size:=λhx=>(li.1 hx).1
 refine⟨⟨h.os,h.out,by simp[h.size],λb x hx=>?_,λb a u hx=>?_,λb a u hx=>?_,λb r hx=>?_⟩,⟨by simp,λb c T fz hb=>⟨c,fz,(old L b (lt hb)).trans hb,rfl⟩,λb x hx hn=>⟨x,(old L b (lt hx)).trans hx,hn⟩,λ_ b x hx _=>(old L b (lt hx)).trans hx⟩,rfl,rfl,⟨lh _,by simp⟩,λb e=>(by show(C.heap.push o)[b]?=(L.heap.push o)[b]?;rw[xq,xq,h.size,e]),λb e=>(by
  show(C.heap.push o)[b]?=U b (L.heap.push o)[b]?;rw[xq,xq,h.size];split
  ·exact(U_eq λa u hc=>nv a u (sj hc)).symm
  ·exact e),λb T fz hb=>old C b (by rw[h.size];exact lt hb),⟨#[],by simp,λe he=>by simp at he⟩,λ_ b x hx _=>⟨(old L b (lt hx)).trans hx,old C b (by rw[h.size];exact lt hx)⟩⟩
 ·have hx':(L.heap.push o)[b]?=some x:=hx;rw[xq]at hx';split at hx'
  ·rename_i hb;obtain rfl:=sj hx'
   exact⟨o,by show(C.heap.push o)[b]?=_;rw[xq,ll (by rw[hb,h.size])],.inl rfl⟩
  ·obtain⟨x',h1,h2⟩:=h.blk b x hx';exact⟨x',(old C b (lt h1)).trans h1,h2⟩
 ·have hx':(L.heap.push o)[b]?=some (.view a u):=hx;rw[xq]at hx';split at hx'
  ·exact absurd (sj hx') (nv a u)
  ·exact h.nv b a u hx'
 ·have hx':(L.heap.push o)[b]?=some (.pending a u):=hx;rw[xq]at hx';split at hx'
  ·exact np a u (sj hx')
  ·exact h.np b a u hx'
 ·have hx':(L.heap.push o)[b]?=some (.loop r):=hx;rw[xq]at hx';split at hx'
  ·exact nl r (sj hx')
  ·exact h.lp b r hx'
theorem bL4(hs:LoopOK.set){C L:World}(h:WR C L){es:Array Event}{r:Nat}{o q:Obj}(hr:L.heap[r]?=some q)(hq:∀c T fz,q≠.cells c T fz)(nv:∀a u,o≠.view a u)(np:∀c u,o≠.pending c u)(hn:∀c T fz,o≠.cells c T fz)(nl:∀r,o=.loop r->LoopOK.ok r):Out C L {C with heap:=C.heap.setIfInBounds r o} {L with heap:=L.heap.setIfInBounds r o} es (es.push ⟨.obj r,true,o.isChan⟩):=by
 have hlt:r<L.heap.size:=(li.1 hr).1;have at':∀(w:World)(b:Nat),r<w.heap.size->(w.heap.setIfInBounds r o)[b]?=if b=r then some o else w.heap[b]?:=λw b hb=>by
  by_cases hc:b=r
  ·subst hc;rw[ll rfl,lm hb]
  ·rw[lu hc,lj (λe=>hc e.symm)]
 have hltC:r<C.heap.size:=by rw[h.size];exact hlt
 refine⟨⟨h.os,h.out,by simp[h.size],λb x hx=>?_,λb a u hx=>?_,λb a u hx=>?_,λb l hx=>?_⟩,⟨by simp,λb c T fz hb=>?_,λb x hx hxn=>?_,λhh=>absurd hs hh⟩,rfl,rfl,⟨lh _,by simp⟩,λb e=>(by show(C.heap.setIfInBounds r o)[b]?=(L.heap.setIfInBounds r o)[b]?;rw[at' L b hlt,at' C b hltC,e]),λb e=>(by
  show(C.heap.setIfInBounds r o)[b]?=U b (L.heap.setIfInBounds r o)[b]?;rw[at' L b hlt,at' C b hltC];split
  ·exact(U_eq λa u hc=>nv a u (sj hc)).symm
  ·exact e),λb T fz hb=>?_,⟨#[⟨.obj r,true,o.isChan⟩],by simp,λe he=>?_⟩,λhh=>absurd hs hh⟩
 ·have hx':(L.heap.setIfInBounds r o)[b]?=some x:=hx;show∃o',(C.heap.setIfInBounds r o)[b]?=some o'/\_;rw[at' L b hlt]at hx';rw[at' C b hltC];split at hx'
  ·rename_i hc;rw[ll hc];exact⟨o,rfl,.inl (sj hx')⟩
  ·rename_i hc;rw[lu hc];exact h.blk b x hx'
 ·have hx':(L.heap.setIfInBounds r o)[b]?=some (.view a u):=hx;rw[at' L b hlt]at hx';split at hx'
  ·exact absurd (sj hx') (nv a u)
  ·exact h.nv b a u hx'
 ·have hx':(L.heap.setIfInBounds r o)[b]?=some (.pending a u):=hx;rw[at' L b hlt]at hx';split at hx'
  ·exact np a u (sj hx')
  ·exact h.np b a u hx'
 ·have hx':(L.heap.setIfInBounds r o)[b]?=some (.loop l):=hx;rw[at' L b hlt]at hx';split at hx'
  ·exact nl l (sj hx')
  ·exact h.lp b l hx'
 ·refine⟨c,fz,?_,rfl⟩;show(L.heap.setIfInBounds r o)[b]?=_;rw[at' L b hlt,lu (λhc=>by subst hc;rw[hr]at hb;cases hb;exact hq _ _ _ rfl)];exact hb
 ·show∃o',(L.heap.setIfInBounds r o)[b]?=some o'/\_;rw[at' L b hlt];by_cases hc:b=r
  ·rw[ll hc];exact⟨o,rfl,hn⟩
  ·rw[lu hc];exact⟨x,hx,hxn⟩
 ·show(C.heap.setIfInBounds r o)[b]?=_;rw[at' C b hltC,lu (λhc=>by subst hc;rw[hr]at hb;cases hb;exact hq _ _ _ rfl)]
 ·simp at he;subst he;refine⟨o,?_,hn,λhh=>absurd hs hh⟩;show(L.heap.setIfInBounds r o)[r]?=_;rw[at' L r hlt,ll rfl]
theorem aP9{C L:World}(h:WR C L)(a:Addr)(s:String):NiceH (L.noCell a s):=by
 unfold World.noCell;split
 ·rename_i hp;exact absurd hp (h.np _ _ _)
 ·exact .uns _ λ_ hb=>by cases hb
 ·exact .stuck _
theorem bi6{w:World}{a a':Addr}{u':TypeId}(h:w.heap[a.block]?=some (.view a' u'))(p:Program)(u:TypeId)(k:Addr)(at_:Bool):∃why,w.seen p a u k at_=.error why:=by
 unfold World.seen;simp only[h];repeat' (first|exact⟨_,rfl⟩|split)
theorem a69{C L:World}(h:WR C L)(p:Program)(a:Addr)(at_:Bool):∃x,L.farLoad p a at_=.error x/\NiceH x:=by
 unfold World.farLoad;split
 ·rename_i at2 u hv;obtain⟨why,hs⟩:=bi6 (by rw[(h.nv _ _ _ hv).1];exact hv) p u a at_;have:L.viewLoad p at2 u a at_=.error why:=by unfold World.viewLoad;rw[hs];rfl
  rw[this];exact⟨_,rfl,.uns _ λ_ hb=>by cases hb⟩
 ·exact⟨_,rfl,aP9 h _ _⟩
theorem bh1{C L:World}(h:WR C L)(p:Program)(a:Addr)(v:Value)(at_:Bool):∃x,L.farStore p a v at_=.error x/\NiceH x:=by
 unfold World.farStore;split
 ·rename_i at2 u hv;obtain⟨why,hs⟩:=bi6 (by rw[(h.nv _ _ _ hv).1];exact hv) p u a at_;have:∃why,L.viewStore p at2 u a v at_=.error why:=by
   unfold World.viewStore;rw[hs];cases tight p p.depth u<;>exact⟨_,rfl⟩
  obtain⟨why,this⟩:=this;rw[this];exact⟨_,rfl,.uns _ λ_ hb=>by cases hb⟩
 ·exact⟨_,rfl,aP9 h _ _⟩
def GB(p:Program)(B0:Nat):Prop:=p.globals.size<=B0/\p.globals.size<=Junk.G
def GL(p:Program)(C L:World):Prop:=∀b:Nat,b<p.globals.size->C.heap[b]?=L.heap[b]?
theorem Out.gl{p:Program}{C L C' L':World}{es es':Array Event}(h:Out C L C' L' es es')(g:GL p C L):GL p C' L':=λb hb=>h.heq b (g b hb)
theorem GL.self{p:Program}{L:World}:GL p L L:=λ_ _=>rfl
theorem WR.gl{C L:World}(h:WR C L){p:Program}{B0:Nat}(hG:GB p B0)(ho:∀b:Nat,b<B0->C.heap[b]?=U b L.heap[b]?):GL p C L:=λb hb=>
 (ho b (lQ hb hG.1)).trans (U_eq λa u hv=>uM.2 (h.nv b a u hv).2 (lQ hb hG.2))
theorem Tame.law{p P:Program}{α:Type}{s:Sem α}(ht:Tame p P s):∀{C L:World}{es es':Array Event}{a:α}{L':World},WR C L->GL p C L->(∀i,L.drawn+i<L'.drawn->C.tape (C.drawn+i)=L.tape (L.drawn+i))->
  s.runT p L es=(.ok a L',es')->∃C',s.runT P C es=(.ok a C',es')/\Out C L C' L' es es':=by
 induction ht with
 |pure a=>
  intro C L es es' b L' h hg _ hr;simp only[Sem.runT]at hr⊢;cases hr;exact⟨C,rfl,.refl h _⟩
 |load _ ih=>
  intro C L es es' b L' h hg ht hr;simp only[Sem.runT]at hr⊢;rename_i ad k _;cases hv:L.cell? ad with
  |none=>
   rw[hv]at hr;obtain⟨x,hx,_⟩:=a69 h p ad (Mode.plain==Mode.atomic);simp only[hx]at hr;cases hr
  |some v=>
   rw[hv]at hr;obtain⟨h1,_,hvis⟩:=h.cell hv;rw[h1];have hk:=aM2 h (es:=es) (e:=⟨.cell ad,false,false⟩) hvis;obtain⟨C',h2,h3⟩:=ih v h hg ht hr;exact⟨C',h2,hk.cons h3⟩
 |store _ ih=>
  intro C L es es' b L' h hg ht hr;rename_i ad v k _;have hv1:∀x,v≠.agg x:=λx hx=>by subst hx;simp only[Sem.runT]at hr;cases hr
  have hv2:∀x,v≠.tuple x:=λx hx=>by subst hx;simp only[Sem.runT]at hr;cases hr
  have e1:∀(q:Program)(W:World),(Sem.store Mode.plain ad v k).runT q W es=match W.cell? ad with
    |some _=>if W.frozen? ad then(.halt (.unsupported (.unsafePointer "a write to bytes that a string shares")) W,es)else k.runT q (W.setCell ad v) (es.push ⟨.cell ad,true,false⟩)
    |none=>match W.farStore q ad v false with
     |.ok (w,touched)=>k.runT q w (es++touched.toArray.map (⟨.cell ·,true,false⟩))
     |.error h=>(.halt h W,es):=λq W=>by
   cases v with
   |agg x=>exact absurd rfl (hv1 x)
   |tuple x=>exact absurd rfl (hv2 x)
   |_=>rfl
  rw[e1]at hr;rw[e1];cases hc:L.cell? ad with
  |none=>
   rw[hc]at hr;obtain⟨x,hx,_⟩:=bh1 h p ad v false;simp only[hx]at hr;cases hr
  |some u=>
   rw[hc]at hr;obtain⟨h1,hbe,_⟩:=h.cell hc;have hfz:C.frozen? ad=L.frozen? ad:=by unfold World.frozen?;rw[hbe]
   simp only at hr
   rw[h1];simp only[hfz];split at hr
   ·cases hr
   ·rename_i hz;rw[lu hz];have hk:=bL3 h (es:=es) (v:=v) hc;obtain⟨C',h2,h3⟩:=ih hk.wr (hk.gl hg) ht hr;exact⟨C',h2,hk.cons h3⟩
 |new nv np nl _ ih=>
  intro C L es es' b L' h hg ht hr;simp only[Sem.runT]at hr⊢;have hk:=bL5 h (es:=es) nv np nl;obtain⟨C',h2,h3⟩:=ih _ hk.wr (hk.gl hg) ht hr;exact⟨C',by rw[h.size];exact h2,hk.cons h3⟩
 |getObj _ hvw hc ih=>
  intro C L es es' b L' h hg ht hr;simp only[Sem.runT]at hr⊢;split at hr
  ·cases hr
  ·rename_i o hn ho;obtain⟨o',h1,h2⟩:=h.blk _ _ ho;rw[h1];have hk:=aM2 h (es:=es) (e:=⟨.obj _,false,o.isChan⟩) ⟨o,ho,hn,λ_=>⟨rfl,rfl⟩⟩;obtain⟨C',h3,h4⟩:=ih o (λr e=>h.lp _ r (e▸ho)) h hg ht hr;refine⟨C',?_,hk.cons h4⟩;rcases h2 with rfl|⟨T,c',rfl,rfl⟩|⟨cap,cl,s,r,cl',s',r',rfl,rfl⟩|⟨⟨x,u,rfl⟩,hj⟩
   ·cases o' with
    |cells c T fz=>exact absurd rfl (hn c T fz)
    |_=>exact h3
   ·exact absurd rfl (hn _ _ _)
   ·show(_:Sem _).runT P C _=_;rw[hc cap cl s r cl' s' r'];exact h3
   ·rcases hvw x u with he|he
    ·have e2:=he o' hj;cases hj<;>(show(_:Sem _).runT P C _=_;rw[e2];exact h3)
    ·exact absurd hr (he _ _ _ _ _)
  ·cases hr
 |setObj hs nv np nc nl _ ih=>
  intro C L es es' b L' h hg ht hr;simp only[Sem.runT]at hr⊢;split at hr
  ·cases hr
  ·rename_i o hn ho;obtain⟨o',h1,h2⟩:=h.blk _ _ ho;rw[h1];have hk:=bL4 hs h (es:=es) ho hn nv np nc nl;obtain⟨C',h3,h4⟩:=ih hk.wr (hk.gl hg) ht hr;refine⟨C',?_,hk.cons h4⟩;have e:o'.isChan=o.isChan/\∀c T fz,o'≠.cells c T fz:=by
    rcases h2 with rfl|⟨T,c',rfl,rfl⟩|⟨cap,cl,s,r,cl',s',r',rfl,rfl⟩|⟨⟨x,u,rfl⟩,hj⟩
    ·exact⟨rfl,hn⟩
    ·exact absurd rfl (hn _ _ _)
    ·exact⟨rfl,λ_ _ _ hc=>by cases hc⟩
    ·cases hj<;>exact⟨rfl,λ_ _ _ hc=>by cases hc⟩
   cases o' with
   |cells c T fz=>exact absurd rfl (e.2 c T fz)
   |_=>exact h3
  ·cases hr
 |choose _ ih=>
  intro C L es es' b L' h hg ht hr;simp only[Sem.runT]at hr⊢;split at hr
  ·rename_i hf;rw[ll hf];exact ih 0 h hg ht hr
  ·rename_i hf;rw[lu hf];have hl:WR {L with drawn:=L.drawn+1} {L with drawn:=L.drawn+1}:=⟨rfl,rfl,rfl,λb o ho=>⟨o,ho,.inl rfl⟩,h.nv,h.np,h.lp⟩
   obtain⟨_,_,o⟩:=ih _ hl .self (λ_ _=>rfl) hr;have hlt:L.drawn+1<=L'.drawn:=o.dr.1;have h0:=ht 0 (by omega);simp only[lV]at h0;rw[h0];have hk:Out C L {C with drawn:=C.drawn+1} {L with drawn:=L.drawn+1} es es:=
    ⟨⟨h.os,h.out,h.size,h.blk,h.nv,h.np,h.lp⟩,⟨lh _,λb c T fz hb=>⟨c,fz,hb,rfl⟩,λb x hx hn=>⟨x,hx,hn⟩,λ_ _ _ h _=>h⟩,rfl,rfl,⟨by show L.drawn<=L.drawn+1;omega,by show C.drawn+1=C.drawn+(L.drawn+1-L.drawn);omega⟩,λ_=>id,λ_=>id,λ_ _ _ _=>rfl,⟨#[],by simp,λe he=>by simp at he⟩,λ_ _ _ h _=>⟨h,rfl⟩⟩
   obtain⟨C',h2,h3⟩:=ih _ hk.wr (hk.gl hg) (λi hi=>by
    have:=ht (i+1) (by have hi:L.drawn+1+i<L'.drawn:=hi;omega)
    show C.tape (C.drawn+1+i)=L.tape (L.drawn+1+i);rw[show C.drawn+1+i=C.drawn+(i+1)by omega,show L.drawn+1+i=L.drawn+(i+1)by omega];exact this) hr
   exact⟨C',h2,hk.cons h3⟩
 |program e _ ih=>
  intro C L es es' b L' h hg ht hr;simp only[Sem.runT]at hr⊢;rw[e];exact ih h hg ht hr
 |noRoom _ ih=>
  intro C L es es' b L' h hg ht hr;simp only[Sem.runT]at hr⊢;obtain⟨C',h2,h3⟩:=ih h hg ht hr;exact⟨C',h2,(aM2 h (e:=⟨.mark .noRoom,false,true⟩) trivial).cons h3⟩
 |shape _ hp ih=>
  intro C L es es' b L' h hg ht hr;simp only[Sem.runT]at hr⊢;rename_i r k _;have key:C.shape? r=L.shape? r\/∃T n',L.shape? r=some (T,0)/\C.shape? r=some (T,n'):=by
   unfold World.shape?;cases ho:L.heap[r]? with
   |none=>
    have:C.heap[r]?=none:=by
     rw[xY]at ho⊢;rw[h.size];exact ho
    rw[this];exact .inl rfl
   |some o=>
    obtain⟨o',h1,h2⟩:=h.blk _ _ ho;rw[h1];rcases h2 with rfl|⟨T,c',rfl,rfl⟩|⟨cap,cl,s,r,cl',s',r',rfl,rfl⟩|⟨⟨x,u,rfl⟩,hj⟩
    ·exact .inl rfl
    ·exact .inr ⟨T,c'.size,rfl,rfl⟩
    ·exact .inl rfl
    ·cases hj<;>exact .inl rfl
  rcases key with e|⟨T,n',e1,e2⟩
  ·rw[e];exact ih _ h hg ht hr
  ·rw[e1]at hr;rcases hp T with hd|hi
   ·exact absurd hr (hd _ _ _ _ _)
   ·rw[e2,hi];exact ih _ h hg ht hr
 |shapeG hr0 _ ih=>
  intro C L es es' b L' h hg ht hr;simp only[Sem.runT]at hr⊢;rename_i r k _;have key:C.shape? r=L.shape? r:=by
   unfold World.shape?;rw[hg r hr0]
  rw[key];exact ih _ h hg ht hr
 |frozen _ ih=>
  intro C L es es' b L' h hg ht hr;simp only[Sem.runT]at hr⊢;rename_i a k _;have key:C.frozen? a=L.frozen? a:=by
   unfold World.frozen?;cases ho:L.heap[a.block]? with
   |none=>
    have:C.heap[a.block]?=none:=by
     rw[xY]at ho⊢;rw[h.size];exact ho
    rw[this]
   |some o=>
    obtain⟨o',h1,h2⟩:=h.blk _ _ ho;rw[h1];rcases h2 with rfl|⟨T,c',rfl,rfl⟩|⟨cap,cl,s,r,cl',s',r',rfl,rfl⟩|⟨⟨x,u,rfl⟩,hj⟩<;>first|rfl|(cases hj<;>rfl)
  rw[key];exact ih _ h hg ht hr
 |halt h=>intro C L es es' b L' _ _ _ hr;cases hr
theorem Tame.bP6{p P:Program}{α:Type}{s:Sem α}(ht:Tame p P s):∀{L:World}{es es':Array Event}{x:Halt}{L':World},WR L L->s.runT p L es=(.halt x L',es')->NiceH x:=by
 induction ht with
 |pure a=>intro L es es' x L' _ hr;cases hr
 |load _ ih=>
  intro L es es' x L' h hr;simp only[Sem.runT]at hr;rename_i ad k _;split at hr
  ·exact ih _ h hr
  ·obtain⟨y,hy,hn⟩:=a69 h p ad (Mode.plain==Mode.atomic);simp only[hy]at hr;cases hr;exact hn
 |store _ ih=>
  intro L es es' x L' h hr;rename_i ad v k _;have e1:(∃y,v=.agg y\/v=.tuple y)\/(Sem.store Mode.plain ad v k).runT p L es=match L.cell? ad with
    |some _=>if L.frozen? ad then(.halt (.unsupported (.unsafePointer "a write to bytes that a string shares")) L,es)else k.runT p (L.setCell ad v) (es.push ⟨.cell ad,true,false⟩)
    |none=>match L.farStore p ad v false with
     |.ok (w,touched)=>k.runT p w (es++touched.toArray.map (⟨.cell ·,true,false⟩))
     |.error h=>(.halt h L,es):=by
   cases v with
   |agg y=>exact .inl ⟨y,.inl rfl⟩
   |tuple y=>exact .inl ⟨y,.inr rfl⟩
   |_=>exact .inr rfl
  rcases e1 with⟨y,rfl|rfl⟩|e1
  ·simp only[Sem.runT]at hr;cases hr;exact .stuck _
  ·simp only[Sem.runT]at hr;cases hr;exact .stuck _
  rw[e1]at hr;cases hc:L.cell? ad with
  |none=>
   rw[hc]at hr;obtain⟨y,hy,hn⟩:=bh1 h p ad v false;simp only[hy]at hr;cases hr;exact hn
  |some u=>
   rw[hc]at hr;simp only at hr
   split at hr
   ·cases hr;exact .uns _ λ_ hb=>by cases hb
   ·exact ih (bL3 h (es:=es) (v:=v) hc).wr hr
 |new nv np nl _ ih=>
  intro L es es' x L' h hr;simp only[Sem.runT]at hr;exact ih _ (bL5 h (es:=es) nv np nl).wr hr
 |getObj _ _ _ ih=>
  intro L es es' x L' h hr;simp only[Sem.runT]at hr;split at hr
  ·cases hr;exact .stuck _
  ·rename_i o hn ho;exact ih _ (λr e=>h.lp _ r (e▸ho)) h hr
  ·cases hr;exact .stuck _
 |setObj hs nv np nc nl _ ih=>
  intro L es es' x L' h hr;simp only[Sem.runT]at hr;split at hr
  ·cases hr;exact .stuck _
  ·rename_i o hn ho;exact ih (bL4 hs h (es:=es) ho hn nv np nc nl).wr hr
  ·cases hr;exact .stuck _
 |choose _ ih=>
  intro L es es' x L' h hr;simp only[Sem.runT]at hr;split at hr
  ·exact ih _ h hr
  ·exact ih _ (L:={L with drawn:=L.drawn+1}) ⟨rfl,rfl,rfl,λ_ o ho=>⟨o,ho,.inl rfl⟩,h.nv,h.np,h.lp⟩ hr
 |program _ _ ih=>intro L es es' x L' h hr;exact ih h hr
 |noRoom _ ih=>intro L es es' x L' h hr;exact ih h hr
 |shape _ _ ih=>intro L es es' x L' h hr;exact ih _ h hr
 |shapeG _ _ ih=>intro L es es' x L' h hr;exact ih _ h hr
 |frozen _ ih=>intro L es es' x L' h hr;exact ih _ h hr
 |halt hx=>intro L es es' x L' h hr;cases hr;exact hx
theorem WR.self{C L:World}(h:WR C L):WR L L:=⟨rfl,rfl,rfl,λb o ho=>⟨o,ho,.inl rfl⟩,h.nv,h.np,h.lp⟩
inductive PlainN:Next->Prop
 |value (v:Value):PlainN (.value v)
 |skip:PlainN .skip
 |enter (f:FuncId) (args:Array Value):PlainN (.enter f args)
inductive TameN(p P:Program):Sem Next->Prop
 |val (v:Value):TameN p P (.pure (.value v))
 |skip:TameN p P (.pure .skip)
 |call (f:FuncId) (args:Array Value) (hf:LoopOK.fn f):TameN p P (callFunc f args)
 |obj {r k} (h:∀o,(∀x,o=.loop x->LoopOK.ok x)->TameN p P (k o)) (hv:∀a u,(∀c,Jk c->k c=k (.view a u))\/∀w es x w' es',(k (.view a u)).runT p w es≠(.ok x w',es')) (hc:∀cap cl s r cl' s' r',k (.chan cap #[] cl s r false)=k (.chan cap #[] cl' s' r' false)):TameN p P (.getObj r k)
 |bind {β:Type}{s:Sem β}{f:β->Sem Next}(h:Tame p P s) (hf:∀b,TameN p P (f b)):TameN p P (s.bind f)
structure Twin(p P:Program):Prop where
 eq:P={p with funcs:=P.funcs}
 fn:∀(f:FuncId)(fn:Func),p.funcs[f]?=some fn->∃(b:Code)(Fn:Func),fn.body=some b/\P.funcs[f]?=some Fn/\Fn={fn with body:=Fn.body}
 size:p.funcs.size=P.funcs.size
omit [Junk]in
theorem ag9(p:Program)(f:FuncId)(args:Array Value)(L:World)(es:Array Event){fn:Func}(h:p.funcs[f]?=some fn):
  (callFunc f args).runT p L es=if fn.name == "runtime.NumGoroutine" then(.ok .numGoroutine L,es)else if fn.body.isNone then(callFunc f args).runT p L es else(.ok (.enter f args) L,es):=by
 by_cases h1:(fn.name == "runtime.NumGoroutine")=true
 ·rw[ll h1];simp only[callFunc,program,Bind.bind,Sem.bind,Sem.runT,h,h1,xj];rfl
 ·rw[lu h1];by_cases h2:fn.body.isNone=true
  ·rw[ll h2]
  ·rw[lu h2];simp only[callFunc,program,Bind.bind,Sem.bind,Sem.runT,h,h1,h2];rfl
omit [Junk]in
theorem ba6{p P:Program}(h:Twin p P){f:FuncId}{args:Array Value}{L L':World}{es es':Array Event}{x:Next}(hr:(callFunc f args).runT p L es=(.ok x L',es')):
  (x=.numGoroutine\/x=.enter f args)/\L'=L/\es'=es/\∀C,((∃Fn:Func,P.funcs[f]?=some Fn/\Fn.body=none)\/(callFunc f args).runT P C es=(.ok x C,es)):=by
 cases hf:p.funcs[f]? with
 |none=>
  simp only[callFunc,program,Bind.bind,Sem.bind,Sem.runT,hf,stuck]at hr;cases hr
 |some fn=>
  obtain⟨b,Fn,hb,hF,hE⟩:=h.fn f fn hf;rw[ag9 p f args L es hf]at hr;have hn:Fn.name=fn.name:=by rw[hE]
  by_cases h1:(fn.name == "runtime.NumGoroutine")=true
  ·rw[ll h1]at hr;cases hr;refine⟨.inl rfl,rfl,rfl,λC=> .inr ?_⟩;rw[ag9 P f args C es hF,hn,ll h1]
  ·rw[lu h1,hb]at hr;simp only[laa]at hr;cases hr;refine⟨.inr rfl,rfl,rfl,λC=>?_⟩;cases hB:Fn.body with
   |none=>exact .inl ⟨Fn,hF,hB⟩
   |some B=>
    right;rw[ag9 P f args C es hF,hn,lu h1,hB];rfl
theorem TameN.law{p P:Program}(hT:Twin p P){s:Sem Next}(ht:TameN p P s):∀{C L:World}{es es':Array Event}{x:Next}{L':World},WR C L->GL p C L->(∀i,L.drawn+i<L'.drawn->C.tape (C.drawn+i)=L.tape (L.drawn+i))->
  s.runT p L es=(.ok x L',es')->L.drawn<=L'.drawn/\(PlainN x\/x=.numGoroutine)/\((∃f args Fn,x=.enter f args/\P.funcs[f]?=some Fn/\Fn.body=none)\/∃C',s.runT P C es=(.ok x C',es')/\Out C L C' L' es es'):=by
 induction ht with
 |val v=>
  intro C L es es' x L' hw hg ht hr;cases hr;exact⟨lh _,.inl (.value v),.inr ⟨C,rfl,.refl hw _⟩⟩
 |skip=>
  intro C L es es' x L' hw hg ht hr;cases hr;exact⟨lh _,.inl .skip,.inr ⟨C,rfl,.refl hw _⟩⟩
 |call f args hfn=>
  intro C L es es' x L' hw hg ht hr;obtain⟨hx,rfl,rfl,hC⟩:=ba6 hT hr;rcases hC C with⟨Fn,h1,h2⟩|h
  ·rcases hx with rfl|rfl
   ·
    refine⟨lh _,.inr rfl,.inr ⟨C,?_,.refl hw _⟩⟩;obtain⟨fn,hfn⟩:∃fn,p.funcs[f]?=some fn:=by
     cases hf:p.funcs[f]? with
     |none=>
      simp only[callFunc,program,Bind.bind,Sem.bind,Sem.runT,hf,stuck]at hr;cases hr
     |some fn=>exact⟨fn,rfl⟩
    obtain⟨b,Fn',hb,hF,hE⟩:=hT.fn f fn hfn;rw[ag9 p f args _ _ hfn]at hr;by_cases h1' : (fn.name == "runtime.NumGoroutine")=true
    ·rw[ag9 P f args C _ hF,show Fn'.name=fn.name by rw[hE],ll h1']
    ·rw[lu h1',hb]at hr;simp only[laa]at hr;cases hr
   ·exact⟨lh _,.inl (.enter f args),.inl ⟨f,args,Fn,rfl,h1,h2⟩⟩
  ·refine⟨lh _,hx.elim .inr λe=> .inl (by rw[e];exact .enter f args),.inr ⟨C,h,.refl hw _⟩⟩
 |obj _ hvw hc ih=>
  intro C L es es' x L' hw hg ht hr;simp only[Sem.runT]at hr⊢;split at hr
  ·cases hr
  ·rename_i o hn ho;obtain⟨o',h1,h2⟩:=hw.blk _ _ ho;rw[h1];have hk:=aM2 hw (es:=es) (e:=⟨.obj _,false,o.isChan⟩) ⟨o,ho,hn,λ_=>⟨rfl,rfl⟩⟩;obtain⟨hd,hx,h3⟩:=ih o (λr e=>hw.lp _ r (e▸ho)) hw hg ht hr;refine⟨hd,hx,h3.imp id λ⟨C',h4,h5⟩=>⟨C',?_,hk.cons h5⟩⟩;rcases h2 with rfl|⟨T,c',rfl,rfl⟩|⟨cap,cl,s,r,cl',s',r',rfl,rfl⟩|⟨⟨y,u,rfl⟩,hj⟩
   ·cases o' with
    |cells c T fz=>exact absurd rfl (hn c T fz)
    |_=>exact h4
   ·exact absurd rfl (hn _ _ _)
   ·show(_:Sem _).runT P C _=_;rw[hc cap cl s r cl' s' r'];exact h4
   ·rcases hvw y u with he|he
    ·have e2:=he o' hj;cases hj<;>(show(_:Sem _).runT P C _=_;rw[e2];exact h4)
    ·exact absurd hr (he _ _ _ _ _)
  ·cases hr
 |bind h hf ih=>
  intro C L es es' x L' hw hg ht hr;rw[Sem.runT_bind']at hr;split at hr
  ·rename_i b L1 es1 h1;obtain⟨hd2,_⟩:=ih b (C:=L1) (h.law hw.self .self (λ_ _=>rfl) h1).choose_spec.2.wr.self .self (λ_ _=>rfl) hr;obtain⟨C1,h2,o1⟩:=h.law hw hg (λi hi=>ht i (by omega)) h1;have hd1:=o1.dr.1;have hdC:=o1.dr.2;obtain⟨_,hx,h3⟩:=ih b o1.wr (o1.gl hg) (λi hi=>by
    have:=ht (L1.drawn-L.drawn+i) (by omega)
    rw[o1.tc,o1.tl,hdC,show C.drawn+(L1.drawn-L.drawn)+i=C.drawn+(L1.drawn-L.drawn+i)by omega,show L1.drawn+i=L.drawn+(L1.drawn-L.drawn+i)by omega];exact this) hr
   refine⟨lU hd1 hd2,hx,h3.imp id λ⟨C',h4,o2⟩=>⟨C',?_,o1.cons o2⟩⟩;rw[Sem.runT_bind',h2];exact h4
  ·cases hr
theorem TameN.bP6{p P:Program}(hT:Twin p P){s:Sem Next}(ht:TameN p P s):∀{L:World}{es es':Array Event}{x:Halt}{L':World},WR L L->s.runT p L es=(.halt x L',es')->NiceH x:=by
 induction ht with
 |val v=>intro L es es' x L' hw hr;cases hr
 |skip=>intro L es es' x L' hw hr;cases hr
 |call f args hfn=>
  intro L es es' x L' hw hr;cases hf:p.funcs[f]? with
  |none=>
   simp only[callFunc,program,Bind.bind,Sem.bind,Sem.runT,hf,stuck]at hr;cases hr;exact .stuck _
  |some fn=>
   obtain⟨b,Fn,hb,hF,hE⟩:=hT.fn f fn hf;rw[ag9 p f args L es hf]at hr;split at hr
   ·cases hr
   ·rw[hb]at hr;simp only[laa]at hr;cases hr
 |obj _ _ _ ih=>
  intro L es es' x L' hw hr;simp only[Sem.runT]at hr;split at hr
  ·cases hr;exact .stuck _
  ·rename_i o hn ho;exact ih _ (λr e=>hw.lp _ r (e▸ho)) hw hr
  ·cases hr;exact .stuck _
 |bind h hf ih=>
  intro L es es' x L' hw hr;rw[Sem.runT_bind']at hr;split at hr
  ·rename_i b L1 es1 h1;exact ih b (h.law hw .self (λ_ _=>rfl) h1).choose_spec.2.wr.self hr
  ·rename_i h1;cases hr;exact h.bP6 hw h1
end Hid
namespace Hid
open Go.RowKit Go.Conc
variable [LoopOK] [Junk]
def OpT(p P:Program)(o:Oper):Prop:=∀ρ:Operand->Value,(∀f,ρ (.func f)=.func (.func f) #[] #[])->TameN p P (execOp ρ o)
def av6(p P:Program):Code->Prop
 |.skip|.label _|.exit _|.ret|.refuse _=>True
 |.region _ ops _=>∀o∈ops.toList,OpT p P o
 |.seq x y=>av6 p P x/\av6 p P y
 |.cond _ x y=>av6 p P x/\av6 p P y
 |.block _ c=>av6 p P c
 |.loop c=>av6 p P c
 |.scope c=>av6 p P c
 |.rangeFunc ..|.goto _=>False
def ay2(p P:Program):Item->Prop
 |.code c=>av6 p P c
 |.inBlock _|.inScope _=>True
 |.inLoop c=>av6 p P c
 |.inRegion ops _=>∀o∈ops.toList,OpT p P o
 |_=>False
structure FrOK(p P:Program)(fr:Frame):Prop where
 todo:∀i∈fr.todo,ay2 p P i
 defers:fr.defers=[]
 kind:fr.kind=.normal
 round:fr.roundOf=none
 mode:fr.mode=.run\/fr.mode=.returning
structure Pair(p P:Program):Prop where
 twin:Twin p P
 code:∀(f:FuncId)(fn:Func)(b:Code),LoopOK.fn f->p.funcs[f]?=some fn->fn.body=some b->av6 p P b
 res:∀(f:FuncId)(fn:Func)(t:Array Value),p.funcs[f]?=some fn->Tame p P (results fn t)
 ng:∀(f:FuncId)(fn:Func),p.funcs[f]?=some fn->(fn.name == "runtime.NumGoroutine")=false
theorem bA2{p P:Program}(h:Twin p P)(f:FuncId):(P.funcs[f]?).any (·.norace)=(p.funcs[f]?).any (·.norace):=by
 cases hf:p.funcs[f]? with
 |none=>
  have:P.funcs[f]?=none:=by
   rw[xY]at hf⊢;rw[<-h.size];exact hf
  rw[this]
 |some fn=>
  obtain⟨b,Fn,_,hF,hE⟩:=h.fn f fn hf;rw[hF,hE];rfl
theorem bd2{p P:Program}(h:Twin p P)(f:FuncId)(es:Array Event):seen P f es=seen p f es:=by
 unfold seen;simp only[bA2 h]
theorem bg6{β:Type}(g:β×Array Event->Event->β×Array Event)(S:Event->Prop)(hg:∀s e,S e->(∀x∈s.2,S x)->∀x∈(g s e).2,S x):∀(l:List Event)(s:β×Array Event),(∀e∈l,S e)->(∀x∈s.2,S x)->∀x∈(l.foldl g s).2,S x
 | [],_,_,hs=>hs
 |e::l,s,hl,hs=>bg6 g S hg l (g s e) (λx hx=>hl x (by simp[hx])) (hg s e (hl e (by simp)) hs)
theorem bW2{p:Program}{f:FuncId}{es:Array Event}{e:Event}(h:e∈seen p f es):e∈es:=by
 unfold seen at h;dsimp only at h;rw[<-Array.foldl_toList]at h;refine bg6 _ (λe=>e∈es) ?_ es.toList _ (λx hx=>xE.1 hx) ?_ e h
 ·rintro⟨q,kept⟩ x hx hs y hy;dsimp only at hy hs;split at hy
  ·exact hs y hy
  ·dsimp only at hy;split at hy
   ·exact hs y hy
   ·rcases Array.mem_push.1 hy with hy|rfl
    ·exact hs y hy
    ·exact hx
 ·simp
theorem Out.seen{C L C' L':World}{es:Array Event}(h:Out C L C' L' #[] es)(p:Program)(f:FuncId):Out C L C' L' #[] (Go.seen p f es):=by
 obtain⟨ns,e,hn⟩:=h.evs;exact⟨h.wr,h.stay,h.tc,h.tl,h.dr,h.heq,h.old,h.hid,⟨Go.seen p f es,by simp,λx hx=>hn x (by have:=bW2 hx;rw[e]at this;simpa using this)⟩,h.obj⟩
inductive Bad(xs:List Frame):GStep->Prop
 |panic {x':Frame}{ch:List PanicEntry}{w:World}{es:Array Event}(hm:x'.mode=.panicking ch) (hd:x'.defers=[]):Bad xs (.go (G x' xs) w es)
 |ended {o:Outcome}{w:World}{es:Array Event}:Bad xs (.ended o w es)
inductive StepR(p P:Program)(mP:Bool)(x:Frame)(xs:List Frame)(c:Frame)(csT csP:List Frame)(C L:World):GStep->GStep->Prop
 |go {x':Frame}{xs':List Frame}{C' L':World}{es:Array Event}(hx:FrOK p P x') (hxs:∀y∈xs',FrOK p P y) (ho:Out C L C' L' #[] es):StepR p P mP x xs c csT csP C L (.go (G x' (xs'++c::csT)) L' es) (.go (G x' (xs'++csP)) C' es)
 | at6 {f:FuncId}{args:Array Value}{L':World}{es:Array Event}{r:GStep}(hf:P.funcs[f]?≠p.funcs[f]?) (hJ:LoopOK.fn f) (hx:FrOK p P x)
   (hr:(∃Fn,P.funcs[f]?=some Fn/\Fn.body=none)\/∃C',r=.go (G (Frame.enter P f args .normal) (x::xs++csP)) C' es/\Out C L C' L' #[] es):StepR p P mP x xs c csT csP C L (.go (G (Frame.enter p f args .normal) (x::xs++c::csT)) L' es) r
 |ret {v:Value}{C' L':World}{es:Array Event}(he:xs=[]) (hm:x.mode=.returning) (ho:Out C L C' L' #[] es):StepR p P mP x xs c csT csP C L (.go (G (c.finish v) csT) L' es) (GStep.after es (doReturn P mP x csP none v C'))
 |bad {r r':GStep}(h:Bad (xs++c::csT) r):StepR p P mP x xs c csT csP C L r r'
section
variable {p P:Program}{mT mP:Bool}{x:Frame}{xs:List Frame}{c:Frame}{csT csP:List Frame}{C L:World}
theorem out0(hw:WR C L):Out C L C L #[] #[]:= .refl hw _
theorem StepR.to(hx:FrOK p P x)(hxs:∀y∈xs,FrOK p P y)(hw:WR C L){k:List Item}(hk:∀i∈k,ay2 p P i):
  StepR p P mP x xs c csT csP C L (.go {frame:={x with todo:=k},callers:=xs++c::csT,status:= .running,dying:=none} L) (.go {frame:={x with todo:=k},callers:=xs++csP,status:= .running,dying:=none} C):=
 .go (x':={x with todo:=k}) ⟨hk,hx.defers,hx.kind,hx.round,hx.mode⟩ hxs (out0 hw)
theorem aG6{id:Nat}:∀{k k':List Item},exitTo id k=some k'->∀i∈k',i∈k
 |.inBlock id'::k,k',h,i,hi=>by
  simp only[exitTo]at h;split at h
  ·cases h;exact lS _ hi
  ·exact lS _ (aG6 h i hi)
 |.code _::k,k',h,i,hi|.inLoop _::k,k',h,i,hi|.inScope _::k,k',h,i,hi|.inRegion _ _::k,k',h,i,hi|.inRangeFunc _::k,k',h,i,hi
 |.endRangeFunc _::k,k',h,i,hi|.beginRound::k,k',h,i,hi|.call _ _ _ _::k,k',h,i,hi|.extern _ _::k,k',h,i,hi=>lS _ (aG6 (by simpa only [exitTo]using h) i hi)
theorem al1(hx:FrOK p P x){i:Item}{k:List Item}(ht:x.todo=i::k)(hi:¬ ay2 p P i):False:=hi (hx.todo i (by rw[ht];exact lP))
theorem au9(hx:FrOK p P x)(v:Value):FrOK p P (x.finish v):=by
 have hy:=hx;obtain⟨h1,h2,h3,h4,h5⟩:=hx;unfold Frame.finish;split<;>rename_i ht
 ·refine⟨λi hi=>?_,h2,h3,h4,h5⟩;rcases xe.1 hi with rfl|hi
  ·have h:=h1 _ (by rw[ht];exact lP);exact h
  ·exact h1 i (by rw[ht];simp[hi])
 ·exact(al1 hy ht id).elim
 ·exact(al1 hy ht id).elim
 ·exact(al1 hy ht id).elim
 ·exact(al1 hy ht id).elim
 ·exact⟨h1,h2,h3,h4,h5⟩
theorem aM8(h:Pair p P){f:FuncId}(hJ:LoopOK.fn f){fn:Func}(hf:p.funcs[f]?=some fn)(args:Array Value):FrOK p P (Frame.enter p f args .normal):=by
 obtain⟨b,Fn,hb,_,_⟩:=h.twin.fn f fn hf;refine⟨λi hi=>?_,rfl,rfl,rfl,.inl rfl⟩;simp only[Frame.enter,hf,lan,hb,lZ,xy]at hi;subst hi;exact h.code f fn b hJ hf hb
theorem bK5(hx:FrOK p P x)(vs:List PanicEntry){w:World}{es:Array Event}:Bad (xs++c::csT) (.go (G (x.raise vs) (xs++c::csT)) w es):=by
 have hm:x.raise vs={x with mode:= .panicking vs}:=by
  unfold Frame.raise;rcases hx.mode with h|h<;>rw[h]
 rw[hm];exact .panic rfl hx.defers
theorem TameN.plain(h:Pair p P){s:Sem Next}(ht:TameN p P s):∀{L:World}{es es':Array Event}{n:Next}{L':World},WR L L->s.runT p L es=(.ok n L',es')->PlainN n/\∀f args,n=.enter f args->LoopOK.fn f/\∃fn,p.funcs[f]?=some fn:=by
 induction ht with
 |val v=>intro L es es' n L' hw hr;cases hr;exact⟨.value v,λ_ _ e=>by cases e⟩
 |skip=>intro L es es' n L' hw hr;cases hr;exact⟨.skip,λ_ _ e=>by cases e⟩
 |call f args hJ=>
  intro L es es' n L' hw hr;cases hf:p.funcs[f]? with
  |none=>
   simp only[callFunc,program,Bind.bind,Sem.bind,Sem.runT,hf,stuck]at hr;cases hr
  |some fn=>
   obtain⟨b,Fn,hb,hF,hE⟩:=h.twin.fn f fn hf;rw[ag9 p f args L es hf,h.ng f fn hf,hb]at hr;simp only[laa]at hr;cases hr;exact⟨.enter f args,λg a e=>by cases e;exact⟨hJ,fn,hf⟩⟩
 |obj _ _ _ ih=>
  intro L es es' n L' hw hr;simp only[Sem.runT]at hr;split at hr
  ·cases hr
  ·rename_i o hn ho;exact ih _ (λr e=>hw.lp _ r (e▸ho)) hw hr
  ·cases hr
 |bind hb hf ih=>
  intro L es es' n L' hw hr;rw[Sem.runT_bind']at hr;split at hr
  ·rename_i h1;exact ih _ (hb.law hw .self (λ_ _=>rfl) h1).choose_spec.2.wr.self hr
  ·cases hr
theorem ac8(es:Array Event)(g:Goroutine)(w:World):GStep.after es (.go g w)=.go g w es:=by simp[GStep.after]
theorem bT5(r:GStep):GStep.after #[] r=r:=by cases r<;>simp[GStep.after]
theorem Pair.enter(h:Pair p P){f:FuncId}{args:Array Value}(e:P.funcs[f]?=p.funcs[f]?):Frame.enter P f args .normal=Frame.enter p f args .normal:=by
 simp only[Frame.enter,e]
theorem bS9(h:Pair p P)(hx:FrOK p P x)(hxs:∀y∈xs,FrOK p P y)(hw:WR C L)(hg:GL p C L){s:Sem Next}(hs:TameN p P s)
  (ht:∀g' L' es,stepG.apply p true x (xs++c::csT) none s L=.go g' L' es->∀i,L.drawn+i<L'.drawn->C.tape (C.drawn+i)=L.tape (L.drawn+i)):
  StepR p P mP x xs c csT csP C L (stepG.apply p true x (xs++c::csT) none s L) (stepG.apply P true x (xs++csP) none s C):=by
 have hk:∀d b r sv k,x.todo≠.call d b r sv::k:=λd b r sv k e=>al1 hx e id
 have hearly:(x.kind==CallKind.early)=false:=by rw[hx.kind];rfl
 have eA:∀(q:Program)(cs:List Frame)(w w':World)(n:Next)(es:Array Event),PlainN n->s.runT q w #[]=(.ok n w',es)->stepG.apply q true x cs none s w=match n with
   |.value v=> .go (G (x.finish v) cs) w' (seen q x.fn es)
   |.enter f args=> .go (G (Frame.enter q f args .normal) (x::cs)) w' (seen q x.fn es)
   |_=> .go (G (x.finish undef) cs) w' (seen q x.fn es):=λq cs w w' n es hp hr=>by
  unfold stepG.apply;simp only[hr,xj,hearly,lH,xn];cases hp<;>simp only[ac8]
  ·rfl
  ·rfl
  ·split
   ·rename_i e;exact(hk _ _ _ _ _ e).elim
   ·rfl
 cases hr:s.runT p L #[]with
 |mk r es=>
  cases r with
  |halt hh L'=>
   have hn:=hs.bP6 h.twin hw.self hr;refine .bad ?_;unfold stepG.apply;simp only[hr,xj,hearly,lH,xn];cases hn with
   |panic v=>simp only[ac8];exact bK5 hx _
   |uns u hu=>
    cases u<;>first|exact .ended|exact absurd rfl (hu _)
   |stuck m=>exact .ended
  |ok n L'=>
   obtain⟨hp,hin⟩:=hs.plain h hw.self hr;have eT:=eA p (xs++c::csT) L L' n es hp hr;have hta:∀i,L.drawn+i<L'.drawn->C.tape (C.drawn+i)=L.tape (L.drawn+i):=by
    cases hp<;>exact ht _ _ _ eT
   obtain⟨_,_,hl⟩:=hs.law h.twin hw hg hta hr;rw[eT];rcases hl with⟨f,args,Fn,rfl,hF,hb⟩|⟨C',hC,ho⟩
   ·refine .at6 ?_ (hin _ _ rfl).1 hx (.inl ⟨Fn,hF,hb⟩);obtain⟨_,fn,hfn⟩:=hin _ _ rfl;obtain⟨b,_,hb',_,_⟩:=h.twin.fn f fn hfn;rw[hF,hfn];intro e;cases e;rw[hb]at hb';cases hb'
   ·rw[eA P (xs++csP) C C' n es hp hC,bd2 h.twin];have ho':=ho.seen p x.fn;cases hp with
    |value v=>exact .go (au9 hx v) hxs ho'
    |skip=>exact .go (au9 hx undef) hxs ho'
    |enter f args=>
     by_cases e:P.funcs[f]?=p.funcs[f]?
     ·obtain⟨hJ,fn,hfn⟩:=hin _ _ rfl;simp only[h.enter e];exact .go (xs':=x::xs) (aM8 h hJ hfn args) (λy hy=>(xe.1 hy).elim (λe=>e▸hx) (hxs y)) ho'
     ·exact .at6 e (hin _ _ rfl).1 hx (.inr ⟨C',rfl,ho'⟩)
theorem bD6(q:Question)(hw:WR C L)(hg:GL p C L)(ht:∀n L',(choose q).run p L=.ok n L'->∀i,L.drawn+i<L'.drawn->C.tape (C.drawn+i)=L.tape (L.drawn+i)):
  ∃n C' L',(choose q).run p L=.ok n L'/\(choose q).run P C=.ok n C'/\Out C L C' L' #[] #[]:=by
 have htm:Tame p P (choose q):= .choose λn=> .pure n
 cases hr:(choose q).runT p L #[]with
 |mk r es=>
  have h1:(choose q).run p L=r:=by rw[<-Sem.runT_fst p (choose q) L #[],hr]
  cases r with
  |halt x w=>
   simp only[choose,Sem.runT]at hr;split at hr<;>cases hr
  |ok n L'=>
   obtain⟨C',h2,ho⟩:=htm.law hw hg (ht n L' h1) hr;refine⟨n,C',L',h1,by rw[<-Sem.runT_fst P (choose q) C #[],h2],?_⟩;have:es = #[]:=by
    simp only[choose,Sem.runT]at hr;split at hr<;>(cases hr;rfl)
   rw[this]at ho;exact ho
theorem b03(h:Pair p P)(hx:FrOK p P x)(hxs:∀y∈xs,FrOK p P y)(hw:WR C L)(hg:GL p C L)(hm:x.mode=.run)
  (ht:∀g' L' es,stepG.exec p mT true x (xs++c::csT) none L=.go g' L' es->∀i,L.drawn+i<L'.drawn->C.tape (C.drawn+i)=L.tape (L.drawn+i)):
  StepR p P mP x xs c csT csP C L (stepG.exec p mT true x (xs++c::csT) none L) (stepG.exec P mP true x (xs++csP) none C):=by
 have leave:StepR p P mP x xs c csT csP C L (.go {frame:={x with mode:= .returning},callers:=xs++c::csT,status:= .running,dying:=none} L) (.go {frame:={x with mode:= .returning},callers:=xs++csP,status:= .running,dying:=none} C):=
  .go (x':={x with mode:= .returning}) ⟨hx.todo,hx.defers,hx.kind,hx.round,.inr rfl⟩ hxs (out0 hw)
 cases hq:x.todo with
 |nil=>have lv:=leave;rw[hq,hx.round]at lv;simp only[stepG.exec,hq,hx.round,xj];exact lv
 |cons i k=>
  have hi:ay2 p P i:=hx.todo i (by rw[hq];exact lP);have hk:∀j∈k,ay2 p P j:=λj hj=>hx.todo j (by rw[hq];exact lS _ hj)
  have two:∀{a b:Item},ay2 p P a->ay2 p P b->∀j∈a::b::k,ay2 p P j:=λha hb j hj=>by
   rcases xe.1 hj with rfl|hj
   ·exact ha
   ·exact(xe.1 hj).elim (λe=>e▸hb) (hk j)
  have one:∀{a:Item},ay2 p P a->∀j∈a::k,ay2 p P j:=λha j hj=>(xe.1 hj).elim (λe=>e▸ha) (hk j)
  cases i with
  |inBlock id=>simp only[stepG.exec,hq];exact .to hx hxs hw hk
  |inScope b=>simp only[stepG.exec,hq];exact .to hx hxs hw hk
  |inLoop b=>simp only[stepG.exec,hq];exact .to hx hxs hw (two hi hi)
  |inRangeFunc l=>exact(al1 hx hq id).elim
  |endRangeFunc l=>exact(al1 hx hq id).elim
  |beginRound=>exact(al1 hx hq id).elim
  |call a b d e=>exact(al1 hx hq id).elim
  |extern a b=>exact(al1 hx hq id).elim
  |inRegion ops js=>
   cases js with
   |nil=>simp only[stepG.exec,hq];exact .to hx hxs hw hk
   |cons j js=>
    have ho:x.oper?=ops[j]?:=by simp only[Frame.oper?,hq]
    by_cases hwn:(((ops[j]?).map (Region.wanted · (yielded ops x.tmps))).getD false)=true
    ·have e:∀(q:Program)(m:Bool)(cs:List Frame)(w:World),stepG.exec q m true x cs none w=stepG.oper q true x cs none w:=λq m cs w=>by
      simp only[stepG.exec,hq,hwn,xj]
     rw[e]at ht⊢;rw[e];cases hoj:ops[j]? with
     |none=>rw[hoj]at hwn;cases hwn
     |some o=>
      have e2:∀(q:Program)(cs:List Frame)(w:World),stepG.oper q true x cs none w=stepG.apply q true x cs none (execOp x.eval o) w:=λq cs w=>by
       simp only[stepG.oper,ho,hoj,hx.round]
      rw[e2]at ht⊢;rw[e2];have hmem:o∈ops.toList:=by
       obtain⟨hlt,he⟩:=li.1 hoj;rw[<-he];exact xE.2 (Array.getElem_mem hlt)
      exact bS9 h hx hxs hw hg (hi o hmem x.eval λ_=>rfl) ht
    ·have e:∀(q:Program)(m:Bool)(cs:List Frame)(w:World),stepG.exec q m true x cs none w=.go (G (x.finish undef) cs) w:=λq m cs w=>by
      simp only[stepG.exec,hq,hwn];rfl
     rw[e,e];exact .go (au9 hx undef) hxs (out0 hw)
  |code cd=>
   cases cd with
   |skip=>simp only[stepG.exec,hq];exact .to hx hxs hw hk
   |label l=>simp only[stepG.exec,hq];exact .to hx hxs hw hk
   |ret=>have lv:=leave;rw[hq,hx.round]at lv;simp only[stepG.exec,hq,hx.round,xj];exact lv
   |refuse s=>simp only[stepG.exec,hq];exact .bad .ended
   |seq a b=>simp only[stepG.exec,hq];exact .to hx hxs hw (two hi.1 hi.2)
   |block id b=>simp only[stepG.exec,hq];exact .to hx hxs hw (two hi trivial)
   |loop b=>simp only[stepG.exec,hq];exact .to hx hxs hw (two hi hi)
   |scope b=>simp only[stepG.exec,hq];exact .to hx hxs hw (two hi trivial)
   |goto l=>exact(al1 hx hq id).elim
   |rangeFunc _ _ _ _=>exact(al1 hx hq id).elim
   |cond t a b=>
    cases hv:x.eval t with
    |bool v=>
     simp only[stepG.exec,hq,hv];exact .to hx hxs hw (one (by cases v;exact hi.2;exact hi.1))
    |_=>simp only[stepG.exec,hq,hv];exact .bad .ended
   |exit id=>
    cases he:exitTo id k with
    |none=>simp only[stepG.exec,hq,he,hx.round];exact .bad .ended
    |some k'=>simp only[stepG.exec,hq,he];exact .to hx hxs hw λj hj=>hk j (aG6 he j hj)
   |region id ops draw=>
    cases draw with
    |false=>simp only[stepG.exec,hq];exact .to hx hxs hw (one hi)
    |true=>
     have e:∀(q:Program)(m:Bool)(cs:List Frame)(w w':World)(n:Nat),(choose (.order x.fn id)).run q w=.ok n w'->stepG.exec q m true x cs none w=.go (G {x with todo:= .inRegion ops (Region.schedule (q.follows .mixedOrders) ops n)::k} cs) w':=λq m cs w w' n hr=>by
      simp only[stepG.exec,hq,hr];rfl
     obtain⟨n,C',L',h1,h2,ho⟩:=bD6 (p:=p) (P:=P) (.order x.fn id) hw hg λn L' hr=>ht _ _ _ (e _ _ _ _ _ _ hr)
     rw[e _ _ _ _ _ _ h1,e _ _ _ _ _ _ h2];have hfo:P.follows .mixedOrders=p.follows .mixedOrders:=by rw[h.twin.eq]
     rw[hfo];exact .go (x':={x with todo:= .inRegion ops (Region.schedule (p.follows .mixedOrders) ops n)::k}) ⟨one hi,hx.defers,hx.kind,hx.round,hx.mode⟩ hxs ho
theorem aw4{a b:Func}(t:Array Value)(h:a.results=b.results):results a t=results b t:=by unfold results;rw[h]
theorem aL7(h:Pair p P)(hx:FrOK p P x)(hxs:∀y∈xs,FrOK p P y)(hw:WR C L)(hg:GL p C L)
  (ht:∀g' L' es,stepG p mT (G x (xs++c::csT)) L=.go g' L' es->∀i,L.drawn+i<L'.drawn->C.tape (C.drawn+i)=L.tape (L.drawn+i)):
  StepR p P mP x xs c csT csP C L (stepG p mT (G x (xs++c::csT)) L) (stepG P mP (G x (xs++csP)) C):=by
 rcases hx.mode with hm|hm
 ·have e:∀(q:Program)(m:Bool)(cs:List Frame)(w:World),stepG q m (G x cs) w=stepG.exec q m true x cs none w:=λq m cs w=>by
   simp only[stepG,G,hm]
  rw[e]at ht⊢;rw[e];exact b03 h hx hxs hw hg hm ht
 ·have e:∀(q:Program)(m:Bool)(cs:List Frame)(w:World),stepG q m (G x cs) w=match q.funcs[x.fn]? with
    |none=>doReturn q m x cs none (x.tmps.getD 0 undef) w
    |some fn=>GStep.after (seen q x.fn ((results fn x.tmps).runT q w #[]).2) <| match((results fn x.tmps).runT q w #[]).1 with
     |.ok v w=>doReturn q m x cs none v w
     |.halt (.stuck s) w=> .ended (.stuck s (x.pos q)) w
     |.halt _ w=>.ended (.stuck "return: the result variables cannot be read" (x.pos q)) w:=λq m cs w=>by
   simp only[stepG,G,hm,unwind,hx.defers];rfl
  have dT:∀(v:Value)(w:World),doReturn p mT x (xs++c::csT) none v w=match xs with
    | []=> .go (G (c.finish v) csT) w
    |y::ys=> .go (G (y.finish v) (ys++c::csT)) w:=λv w=>by
   cases xs with
   |nil=>simp only[doReturn,uW,hx.kind];rfl
   |cons y ys=>simp only[doReturn,uP,hx.kind];rfl
  have back:∀(v:Value)(C' L':World)(es:Array Event),Out C L C' L' #[] es->StepR p P mP x xs c csT csP C L (GStep.after es (doReturn p mT x (xs++c::csT) none v L')) (GStep.after es (doReturn P mP x (xs++csP) none v C')):=λv C' L' es ho=>by
   rw[dT];cases xs with
   |nil=>
    simp only[ac8,uW];exact .ret rfl hm ho
   |cons y ys=>
    have:doReturn P mP x (y::ys++csP) none v C'=.go (G (y.finish v) (ys++csP)) C':=by simp only[doReturn,uP,hx.kind];rfl
    rw[this,ac8];simp only[ac8];exact .go (au9 (hxs y (by simp)) v) (λz hz=>hxs z (by simp[hz])) ho
  rw[e]at ht⊢;rw[e];cases hf:p.funcs[x.fn]? with
  |none=>
   have hF:P.funcs[x.fn]?=none:=by
    rw[xY]at hf⊢;rw[<-h.twin.size];exact hf
   rw[hF];have:=back (x.tmps.getD 0 undef) C L #[] (out0 hw)
   simpa only [bT5]using this
  |some fn=>
   obtain⟨b,Fn,_,hF,hE⟩:=h.twin.fn _ fn hf;rw[hF];rw[hf]at ht;simp only at ht⊢
   rw[aw4 (a:=Fn) (b:=fn) x.tmps (by rw[hE])];have htm:=h.res _ fn x.tmps hf;cases hr:(results fn x.tmps).runT p L #[]with
   |mk r es=>
    rw[hr]at ht;simp only at ht⊢
    cases r with
    |halt hh L'=>cases hh<;>exact .bad (by simp only[GStep.after];exact .ended)
    |ok v L'=>
     simp only at ht⊢
     obtain⟨C',hC,ho⟩:=htm.law hw hg (by
      rw[dT]at ht;cases xs<;>(simp only[ac8]at ht;exact ht _ _ _ rfl)) hr
     rw[hC,bd2 h.twin];simp only
     exact back v C' L' _ (ho.seen p x.fn)
end
end Hid
end Go.Proofs.YtnhecfkpiojmhaaGreat
