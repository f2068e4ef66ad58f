/- Part 6 of the texts that the law's proof leans on. -/
import Derived.Test.YthappngbapbkfaaGreatM5
import Derived.Laws.EntriesVeiled
namespace Go.Proofs.YthappngbapbkfaaGreat.Sx
open Go.RowKit
inductive NP:Type
 | arg (i:Nat)
 | part (i j:Nat)
 | cell (o j:Nat)
 | hole (o:Nat)
def nameOf:SV->Option Nat
 | .own k _=>some k
 | .osl k _=>some k
 | .ownAt k _ _ _ _=>some k
 | .omap k=>some k
 | _=>none
def subS (j:Nat):SV->Option SV
 | .fn _ n g=>if j<n then some (g j) else none
 | .agg n g=>if j<n then some (g j) else none
 | .slP n g=>if j<n then some (g j) else none
 | _=>none
def nameAt (H:List SO) (args:List SV) (ks:List Nat):NP->Option Nat
 | .arg i=>if i<args.length then nameOf (args.getD i .any) else none
 | .part i j=>if i<args.length then match subS j (args.getD i .any) with
  | some s=>nameOf s
  | none=>none
  else none
 | .cell o j=>match ks[o]? with
  | some k=>match H.getD k .dead with
   | .cells n g _=>if j<n then nameOf (g j) else none
   | _=>none
  | none=>none
 | .hole o=>match ks[o]? with
  | some k=>match H.getD k .dead with
   | .deep _ _ _ _ _ _ _ _ _ ho=>match ho with
    | some q=>nameOf q.2
    | none=>none
   | _=>none
  | none=>none
def aX5 (H:List SO) (ks:List Nat):NP->Prop
 | .hole o=>match ks[o]? with
  | some k=>match H.getD k .dead with
   | .deep _ len _ _ _ _ _ _ _ ho=>match ho with
    | some q=>Ask (q.1<len)
    | none=>True
   | _=>True
  | none=>True
 | _=>True
def holesP (H:List SO) (ks:List Nat):List NP->Prop
 | []=>True
 | p::r=>aX5 H ks p/\holesP H ks r
def a62:List NP->Bool
 | []=>false
 | .hole _::_=>true
 | _::r=>a62 r
def holeO (os:List SO):NP->Prop
 | .hole o=>match os[o]? with
  | some so=>match so with
   | .deep _ len _ _ _ _ _ _ _ ho=>match ho with
    | some q=>Ask (q.1<len)
    | none=>True
   | _=>True
  | none=>True
 | _=>True
def aN7 (os:List SO):List NP->Prop
 | []=>True
 | p::r=>holeO os p/\aN7 os r
def am0 (os:List SO) (ps:List NP) (a:Prop):Prop:=match a62 ps with
 | true=>a/\aN7 os ps
 | false=>a
theorem aq4 {os:List SO}:∀ {ps:List NP},a62 ps=false->aN7 os ps
 | [],_=>trivial
 | .arg _::r,h=>⟨trivial,aq4 (ps:=r) h⟩
 | .part _ _::r,h=>⟨trivial,aq4 (ps:=r) h⟩
 | .cell _ _::r,h=>⟨trivial,aq4 (ps:=r) h⟩
 | .hole _::r,h=>by cases h
theorem ap6 {os:List SO}{ps:List NP}{a:Prop}(h:am0 os ps a):a/\aN7 os ps:=by
 unfold am0 at h
 split at h
 ·exact h
 ·rename_i hn; exact ⟨h,aq4 hn⟩
theorem holeP_of {H:List SO}{ks:List Nat}{p:NP}(h:holeO (ks.map fun k=>H.getD k .dead) p):aX5 H ks p:=by
 cases p with
 | hole o=>
  simp only [holeO,List.getElem?_map] at h
  simp only [aX5]
  cases hk:ks[o]? with
  | none=>trivial
  | some k=>
   rw [hk] at h
   simp only [Option.map_some] at h
   cases hso:H.getD k .dead with
   | deep ver len n c m p g T T' ho=>
    rw [hso] at h
    simp only [hso]
    cases ho with
    | none=>trivial
    | some q=>exact h
   | _=>simp only [hso]
 | _=>trivial
theorem aH9 {H:List SO}{ks:List Nat}:∀ {ps:List NP},aN7 (ks.map fun k=>H.getD k .dead) ps->holesP H ks ps
 | [],_=>trivial
 | p::r,h=>⟨holeP_of h.1,aH9 h.2⟩
def am4 (H:List SO) (args:List SV):List NP->List Nat->Option (List Nat)
 | [],ks=>some ks
 | p::r,ks=>match nameAt H args ks p with
  | some k=>am4 H args r (ks++[k])
  | none=>none
def posOf:List Nat->Nat->Option Nat
 | [],_=>none
 | a::r,k=>match Nat.beq a k with
  | true=>some 0
  | false=>match posOf r k with
   | some i=>some (i+1)
   | none=>none
def ax1:List Nat->Bool
 | []=>true
 | a::r=>(posOf r a).isNone&&ax1 r
theorem af9:∀ {ks:List Nat}{k i:Nat},posOf ks k=some i->ks[i]?=some k
 | [],k,i,h=>by cases h
 | a::r,k,i,h=>by
  simp only [posOf] at h
  split at h
  ·rename_i hb
   cases h
   rw [Nat.eq_of_beq_eq_true hb]; rfl
  ·split at h
   ·rename_i j hj
    cases h
    rw [List.getElem?_cons_succ]
    exact af9 hj
   ·cases h
theorem az8:∀ {ks:List Nat}{k:Nat},posOf ks k=none->k ∉ ks
 | [],k,_=>List.not_mem_nil
 | a::r,k,h=>by
  simp only [posOf] at h
  split at h
  ·cases h
  ·rename_i hb
   split at h
   ·cases h
   ·rename_i hr
    intro hm
    rcases List.mem_cons.1 hm with rfl | hm
    ·rw [Nat.beq_refl] at hb; cases hb
    ·exact az8 hr hm
theorem posOf_some {ks:List Nat}{k:Nat}(h:k∈ks):∃ i,posOf ks k=some i:=by
 cases hp:posOf ks k with
 | none=>exact absurd h (az8 hp)
 | some i=>exact ⟨i,rfl⟩
theorem aw8 {ks:List Nat}{k i:Nat}(h:posOf ks k=some i):k∈ks:=List.mem_of_getElem? (af9 h)
theorem ap8:∀ {ks:List Nat}{k i:Nat},ax1 ks=true->ks[i]?=some k->posOf ks k=some i
 | [],k,i,_,h=>by cases h
 | a::r,k,0,_,h=>by
  simp only [List.getElem?_cons_zero,Option.some.injEq] at h
  subst h
  simp only [posOf,Nat.beq_refl]
 | a::r,k,i+1,hn,h=>by
  simp only [ax1,Bool.and_eq_true] at hn
  have h':r[i]?=some k:=h
  have hne:Nat.beq a k=false:=by
   cases hb:Nat.beq a k with
   | false=>rfl
   | true=>
    have:=Nat.eq_of_beq_eq_true hb
    subst this
    obtain ⟨j,hj⟩:=posOf_some (List.mem_of_getElem? h')
    rw [hj] at hn
    simp at hn
  simp only [posOf,hne,ap8 hn.2 h']
theorem posOf_inj {ks:List Nat}{k k' i:Nat}(h:posOf ks k=some i) (h':posOf ks k'=some i):k=k':=by
 have h1:=af9 h
 rw [af9 h'] at h1
 exact (Option.some.inj h1).symm
def verO:SO->Nat
 | .row v ..=>v
 | .srow v ..=>v
 | .deep v ..=>v
 | _=>0
def ar0:SO->Bool
 | .dead=>false
 | .cus _=>false
 | _=>true
def sml (os:List SO) (ks:List Nat):SV->SV
 | .own k off=>match posOf ks k with
  | some i=> .own i off
  | none=> .any
 | .osl k ver=>match posOf ks k with
  | some i=>match Nat.beq ver (verO (os.getD i .dead)) with
   | true=> .osl i 0
   | false=> .any
  | none=> .any
 | .ownAt k ver a n off=>match posOf ks k with
  | some i=>match Nat.beq ver (verO (os.getD i .dead)) with
   | true=> .ownAt i 0 a n off
   | false=> .any
  | none=> .any
 | .pin ..=> .any
 | .part ..=> .any
 | .omap k=>match posOf ks k with
  | some i=>match Nat.beq (verO (os.getD i .dead)) 0 with
   | true=> .omap i
   | false=> .any
  | none=> .any
 | .win k ver n lo len=>match posOf ks k with
  | some i=>match Nat.beq ver (verO (os.getD i .dead)) with
   | true=> .win i 0 n lo len
   | false=> .any
  | none=> .any
 | .agg n g=> .agg n (fun i=>sml os ks (g i))
 | .tup n g=> .tup n (fun i=>sml os ks (g i))
 | .fn f n g=> .fn f n (fun i=>sml os ks (g i))
 | .fnb f n g=> .fnb f n (fun i=>sml os ks (g i))
 | .slP n g=> .slP n (fun i=>sml os ks (g i))
 | .refP g=> .refP (fun i=>sml os ks (g i))
 | .ifc T g=> .ifc T (fun i=>sml os ks (g i))
 | s=>s
def smlO (os:List SO) (ks:List Nat):SO->SO
 | .cells n g T=> .cells n (fun i=>sml os ks (g i)) T
 | .row _ len n g T=> .row 0 len n g T
 | .srow _ len n g=> .srow 0 len n g
 | .deep _ len n c m p g T T' ho=> .deep 0 len n c m p g T T' (hoMap (sml os ks) ho)
 | .mps kd has c m p T' ho=> .mps kd has c m p T' (aI0 (sml os ks) ho)
 | s=>s
def big (os:List SO) (ks:List Nat):SV->SV
 | .own i off=>match ks[i]? with
  | some k=> .own k off
  | none=> .any
 | .osl i ver=>match ks[i]? with
  | some k=> .osl k (verO (os.getD i .dead)+ver)
  | none=> .any
 | .ownAt i ver a n off=>match ks[i]? with
  | some k=> .ownAt k (verO (os.getD i .dead)+ver) a n off
  | none=> .any
 | .pin ..=> .any
 | .part ..=> .any
 | .omap i=>match ks[i]? with
  | some k=> .omap k
  | none=> .any
 | .win i ver n lo len=>match ks[i]? with
  | some k=> .win k (verO (os.getD i .dead)+ver) n lo len
  | none=> .any
 | .agg n g=> .agg n (fun i=>big os ks (g i))
 | .tup n g=> .tup n (fun i=>big os ks (g i))
 | .fn f n g=> .fn f n (fun i=>big os ks (g i))
 | .fnb f n g=> .fnb f n (fun i=>big os ks (g i))
 | .slP n g=> .slP n (fun i=>big os ks (g i))
 | .refP g=> .refP (fun i=>big os ks (g i))
 | .ifc T g=> .ifc T (fun i=>big os ks (g i))
 | s=>s
def bigO (os:List SO) (ks:List Nat) (v0:Nat):SO->SO
 | .cells n g T=> .cells n (fun i=>big os ks (g i)) T
 | .row ver len n g T=> .row (v0+ver) len n g T
 | .srow ver len n g=> .srow (v0+ver) len n g
 | .deep ver len n c m p g T T' ho=> .deep (v0+ver) len n c m p g T T' (hoMap (big os ks) ho)
 | .mps kd has c m p T' ho=> .mps kd has c m p T' (aI0 (big os ks) ho)
 | s=>s
def ai1 (os:List SO) (ks:List Nat) (post:List SO):List Nat->Nat->List (Nat×SO)
 | [],_=>[]
 | k::r,i=>(k,bigO os ks (verO (os.getD i .dead)) (post.getD i .dead))::ai1 os ks post r (i+1)
theorem aK0 {os:List SO}{ks:List Nat}{post:List SO}:∀ (r:List Nat) (i:Nat) (H0:List SO),ax1 r=true->(∀ k∈r,k<H0.length)->
  (ad9 H0 (ai1 os ks post r i)).length=H0.length/\∀ k,(ad9 H0 (ai1 os ks post r i)).getD k .dead=match posOf r k with
   | some j=>bigO os ks (verO (os.getD (i+j) .dead)) (post.getD (i+j) .dead)
   | none=>H0.getD k .dead
 | [],i,H0,_,_=>⟨rfl,fun _=>rfl⟩
 | a::r,i,H0,hn,hk=>by
  simp only [ax1,Bool.and_eq_true] at hn
  obtain ⟨h1,h2⟩:=aK0 (post:=post) r (i+1) (H0.set a (bigO os ks (verO (os.getD i .dead)) (post.getD i .dead))) hn.2 (fun k hm=>by rw [List.length_set]; exact hk k (List.mem_cons_of_mem _ hm))
  have e:ad9 H0 (ai1 os ks post (a::r) i)=ad9 (H0.set a (bigO os ks (verO (os.getD i .dead)) (post.getD i .dead))) (ai1 os ks post r (i+1)):=rfl
  rw [e]
  refine ⟨by rw [h1,List.length_set],fun k=>?_⟩
  rw [h2 k]
  simp only [posOf]
  cases hb:Nat.beq a k with
  | true=>
   have:=Nat.eq_of_beq_eq_true hb
   subst this
   have hr:posOf r a=none:=by simpa using hn.1
   rw [hr]
   simp only [Nat.add_zero]
   exact ab4 (hk a List.mem_cons_self)
  | false=>
   have hne:k≠a:=fun hc=>by subst hc; rw [Nat.beq_refl] at hb; cases hb
   cases hr:posOf r k with
   | some j=>simp only; rw [show i+1+j=i+(j+1) by omega]
   | none=>simp only; exact aa3 hne
def smlE (E:Env) (ks:List Nat):Env:=fun i=>match ks[i]? with
 | some k=>match E k with
  | some (.blk b)=>some (.blk b)
  | some (.slc _ v us)=>some (.slc 0 v us)
  | none=>none
 | none=>none
theorem aQ4 {E:Env}{ks:List Nat}{k i b:Nat}(h:posOf ks k=some i) (he:E k=some (.blk b)):smlE E ks i=some (.blk b):=by
 simp only [smlE,af9 h,he]
theorem at4 {E:Env}{ks:List Nat}{k i ver:Nat}{v:Value}{us:Nat->Option Nat}(h:posOf ks k=some i) (he:E k=some (.slc ver v us)):smlE E ks i=some (.slc 0 v us):=by
 simp only [smlE,af9 h,he]
theorem an2 {E:Env}{ks:List Nat}{i:Nat}{e:EI}(h:smlE E ks i=some e):∃ k,ks[i]?=some k/\((∃ b,E k=some (.blk b)/\e = .blk b)\/∃ ver v us,E k=some (.slc ver v us)/\e = .slc 0 v us):=by
 simp only [smlE] at h
 split at h
 ·rename_i k hk
  split at h
  ·rename_i b hb; cases h; exact ⟨k,hk,.inl ⟨b,hb,rfl⟩⟩
  ·rename_i ver v us hv; cases h; exact ⟨k,hk,.inr ⟨ver,v,us,hv,rfl⟩⟩
  ·cases h
 ·cases h
def VerOK (os:List SO) (E:Env) (ks:List Nat):Prop:=∀ i k,ks[i]?=some k->∀ ver v us,E k=some (.slc ver v us)->verO (os.getD i .dead)=ver
theorem R_slN {w:World}{X X':Nat->Prop}(hx:∀ b,X' b->X b) {E E':Env}{len n:Nat}{g:Nat->Nat->SV}{v:Value}(h:R w X E (.slN len n g) v):R w X' E' (.slN len n g) v:=by
 cases h with
 | slN hr=>
  refine .slN ?_
  cases hr with
  | sl0=>exact .sl0
  | sl hb hX hc hl ho hr=>exact .sl hb (fun hc=>hX (hx _ hc)) hc hl ho fun i j hi hj=>(hr i j hi hj).mono (fun _ _ _=>rfl) (fun b _ hb=>hx b hb) (Env.le_refl _)
theorem MpsOK.over {w X X' E E' us kd has c m p T' ho es} (d:MpsOK w X E us kd has c m p T' ho es) (hx:∀ b,X' b->X b) (f:SV->SV) (hf:∀ s u,R w X E s u->R w X' E' (f s) u):MpsOK w X' E' us kd has c m p T' (aI0 f ho) es:=by
 have weak:∀ {s:SV}{v:Value},R w X E0 s v->R w X' E0 s v:=fun h=>h.mono (fun _ _ _=>rfl) (fun b _ hb=>hx b hb) (Env.le_refl _)
 refine ⟨d.map,fun y e he hke hh=>?_,d.gone,fun hy sv fl hho=>?_,fun y y' b q1 q2=>d.inj y y' b (by rwa [ae8] at q1) (by rwa [ae8] at q2)⟩
 ·rw [ae8] at hh
  obtain ⟨q1,ys,q2,q3⟩:=d.inn y e he hke hh
  exact ⟨q1,ys,q2,fun i' j hi' hj=>⟨(q3 i' j hi' hj).1,weak (q3 i' j hi' hj).2⟩⟩
 ·cases ho with
  | none=>cases hho
  | some q=>
   cases hho
   obtain ⟨g1,g2,g3⟩:=d.out q.1 q.2.1 q.2.2 rfl
   exact ⟨g1,fun e he hke=>hf _ _ (g2 e he hke),fun hz=>hf _ _ (g3 hz)⟩
theorem MpiOK.over {w X X' kk tot has val es} (d:MpiOK w X kk tot has val es) (hx:∀ b,X' b->X b):MpiOK w X' kk tot has val es:=by
 have weak:∀ {s:SV}{v:Value},R w X E0 s v->R w X' E0 s v:=fun h=>h.mono (fun _ _ _=>rfl) (fun b _ hb=>hx b hb) (Env.le_refl _)
 exact ⟨d.1,fun l e hl he hk=>weak (d.2.1 l e hl he hk),fun ht l hl hh=>weak (d.2.2 ht l hl hh)⟩
theorem ba3 {w X E ver b us} {so:SO}(h:EIok w X E (.slc ver (.map (some b)) us) so) (ha:ar0 so=true):ver=0:=by
 cases so with
 | dead=>cases ha
 | cells=>exact h.elim
 | scells=>exact h.elim
 | row=>obtain ⟨_,xs,ho,_⟩:=h; rcases ho with ⟨a,h1,_⟩ | ⟨b',cap,cur,h1,_⟩<;>cases h1
 | srow=>obtain ⟨_,hr⟩:=h; cases hr
 | deep=>obtain ⟨_,xs,d⟩:=h; rcases d.own with ⟨a,h1,_⟩ | ⟨b',cap,cur,h1,_⟩<;>cases h1
 | mpi=>exact h.1
 | mps=>exact h.1
 | cus=>cases ha
theorem ba1 {w:World}{X X':Nat->Prop}(hx:∀ b,X' b->X b) {os:List SO}{ks:List Nat}{E:Env}(hv:VerOK os E ks) {s:SV}{v:Value}(h:R w X E s v):R w X' (smlE E ks) (sml os ks s) v:=by
 induction s generalizing v with
 | any=>exact .any
 | int=>cases h; exact .int
 | bool=>cases h; exact .bool
 | lit=>cases h; exact .lit
 | str=>cases h; exact .str
 | nilfn=>cases h; exact .nilfn
 | cap0=>cases h; exact .cap0
 | fn f n g ih=>cases h with | fn hs hr=>exact .fn hs fun i hi=>ih i (hr i hi)
 | fnb f n g ih=>cases h with | fnb hs hr=>exact .fnb hs fun i hi=>ih i (hr i hi)
 | agg n g ih=>cases h with | agg hs ho hr=>exact .agg hs ho fun i hi=>ih i (hr i hi)
 | tup n g ih=>cases h with | tup hs hr=>exact .tup hs fun i hi=>ih i (hr i hi)
 | sl len n g ih=>
  cases h with
  | sl0=>exact .sl0
  | sl hb hX hc hl ho hr=>exact .sl hb (fun hc=>hX (hx _ hc)) hc hl ho fun i j hi hj=>(hr i j hi hj).mono (fun _ _ _=>rfl) (fun b _ hb=>hx b hb) (Env.le_refl _)
 | ref n g ih=>cases h with | ref hb hX hc ho hr=>exact .ref hb (fun hc=>hX (hx _ hc)) hc ho fun j hj=>(hr j hj).mono (fun _ _ _=>rfl) (fun b _ hb=>hx b hb) (Env.le_refl _)
 | own k off=>
  cases h with
  | own he=>
   simp only [sml]
   split
   ·rename_i i hi; exact .own (aQ4 hi he)
   ·exact .any
 | osl k ver=>
  simp only [sml]
  split
  ·rename_i i hi
   split
   ·rename_i hb
    have hbb:=Nat.eq_of_beq_eq_true hb
    cases h with
    | osl he hs=>exact .osl (at4 hi he) hs
    | oslOld he hl hs=>
     have:=hv i k (af9 hi) _ _ _ he
     omega
   ·exact .any
  ·exact .any
 | ownAt k ver a n off=>
  simp only [sml]
  split
  ·rename_i i hi
   split
   ·rename_i hb
    have hbb:=Nat.eq_of_beq_eq_true hb
    cases h with
    | ownAt he=>exact .ownAt (at4 hi he)
    | ownAtOld he hl hs=>
     have:=hv i k (af9 hi) _ _ _ he
     omega
   ·exact .any
  ·exact .any
 | con=>cases h; exact .con
 | pin=>exact .any
 | part=>exact .any
 | slP n g ih=>cases h with | slP hb hX hc hl ho hr=>exact .slP hb (fun hc=>hX (hx _ hc)) hc hl ho fun i hi=>ih i (hr i hi)
 | refP g ih=>cases h with | refP hb hX hc ho hr=>exact .refP hb (fun hc=>hX (hx _ hc)) hc ho (ih 0 hr)
 | ifc T g ih=>cases h with | ifc ho hr=>exact .ifc ho (ih 0 hr)
 | omap k=>
  simp only [sml]
  split
  ·rename_i i hi
   split
   ·rename_i hb
    have hbb:=Nat.eq_of_beq_eq_true hb
    cases h with
    | omap he=>exact .omap (at4 hi he)
    | omapOld he hl=>
     have:=hv i k (af9 hi) _ _ _ he
     omega
   ·exact .any
  ·exact .any
 | nilsl=>cases h; exact .nilsl
 | slN=>exact R_slN hx h
 | win k ver n lo len=>
  simp only [sml]
  split
  ·rename_i i hi
   split
   ·rename_i hb
    have hbb:=Nat.eq_of_beq_eq_true hb
    cases h with
    | win he hl ha h0=>exact .win (at4 hi he) hl ha h0
    | winOld he hl hs=>
     have:=hv i k (af9 hi) _ _ _ he
     omega
   ·exact .any
  ·exact .any
theorem R_big {w:World}{X X':Nat->Prop}(hx:∀ b,X' b->X b) {os:List SO}{ks:List Nat}{Es E':Env}
  (h1:∀ i k b,ks[i]?=some k->Es i=some (.blk b)->E' k=some (.blk b)) (h2:∀ i k ver v us,ks[i]?=some k->Es i=some (.slc ver v us)->E' k=some (.slc (verO (os.getD i .dead)+ver) v us))
  {s:SV}{v:Value}(h:R w X Es s v):R w X' E' (big os ks s) v:=by
 induction s generalizing v with
 | any=>exact .any
 | int=>cases h; exact .int
 | bool=>cases h; exact .bool
 | lit=>cases h; exact .lit
 | str=>cases h; exact .str
 | nilfn=>cases h; exact .nilfn
 | cap0=>cases h; exact .cap0
 | fn f n g ih=>cases h with | fn hs hr=>exact .fn hs fun i hi=>ih i (hr i hi)
 | fnb f n g ih=>cases h with | fnb hs hr=>exact .fnb hs fun i hi=>ih i (hr i hi)
 | agg n g ih=>cases h with | agg hs ho hr=>exact .agg hs ho fun i hi=>ih i (hr i hi)
 | tup n g ih=>cases h with | tup hs hr=>exact .tup hs fun i hi=>ih i (hr i hi)
 | sl len n g ih=>
  cases h with
  | sl0=>exact .sl0
  | sl hb hX hc hl ho hr=>exact .sl hb (fun hc=>hX (hx _ hc)) hc hl ho fun i j hi hj=>(hr i j hi hj).mono (fun _ _ _=>rfl) (fun b _ hb=>hx b hb) (Env.le_refl _)
 | ref n g ih=>cases h with | ref hb hX hc ho hr=>exact .ref hb (fun hc=>hX (hx _ hc)) hc ho fun j hj=>(hr j hj).mono (fun _ _ _=>rfl) (fun b _ hb=>hx b hb) (Env.le_refl _)
 | own i off=>
  cases h with
  | own he=>
   simp only [big]
   split
   ·rename_i k hk; exact .own (h1 _ _ _ hk he)
   ·exact .any
 | osl i ver=>
  simp only [big]
  split
  ·rename_i k hk
   cases h with
   | osl he hs=>exact .osl (h2 _ _ _ _ _ hk he) hs
   | oslOld he hl hs=>exact .oslOld (h2 _ _ _ _ _ hk he) (by omega) hs
  ·exact .any
 | ownAt i ver a n off=>
  simp only [big]
  split
  ·rename_i k hk
   cases h with
   | ownAt he=>exact .ownAt (h2 _ _ _ _ _ hk he)
   | ownAtOld he hl hs=>exact .ownAtOld (h2 _ _ _ _ _ hk he) (by omega) hs
  ·exact .any
 | con=>cases h; exact .con
 | pin=>exact .any
 | part=>exact .any
 | slP n g ih=>cases h with | slP hb hX hc hl ho hr=>exact .slP hb (fun hc=>hX (hx _ hc)) hc hl ho fun i hi=>ih i (hr i hi)
 | refP g ih=>cases h with | refP hb hX hc ho hr=>exact .refP hb (fun hc=>hX (hx _ hc)) hc ho (ih 0 hr)
 | ifc T g ih=>cases h with | ifc ho hr=>exact .ifc ho (ih 0 hr)
 | omap i=>
  simp only [big]
  split
  ·rename_i k hk
   cases h with
   | omap he=>
    have:=h2 _ _ _ _ _ hk he
    rw [Nat.add_zero] at this
    cases hz:verO (os.getD i .dead) with
    | zero=>rw [hz] at this; exact .omap this
    | succ n=>rw [hz] at this; exact .omapOld this (Nat.succ_pos n)
   | omapOld he hl=>exact .omapOld (h2 _ _ _ _ _ hk he) (by omega)
  ·exact .any
 | nilsl=>cases h; exact .nilsl
 | slN=>exact R_slN hx h
 | win i ver n lo len=>
  simp only [big]
  split
  ·rename_i k hk
   cases h with
   | win he hl ha h0=>exact .win (h2 _ _ _ _ _ hk he) hl ha h0
   | winOld he hl hs=>exact .winOld (h2 _ _ _ _ _ hk he) (by omega) hs
  ·exact .any
def aa7 (H:List SO) (ks:List Nat):List SO:=ks.map fun k=>H.getD k .dead
theorem objsAt_get {H:List SO}{ks:List Nat}{i k:Nat}(h:ks[i]?=some k):(aa7 H ks).getD i .dead=H.getD k .dead:=by
 rw [aa7,List.getD_eq_getElem?_getD,List.getElem?_map,h]; rfl
theorem Rep.aU7 {w0 X0 H E w} (h:Rep w0 X0 H E w) {ks:List Nat}(ha:(aa7 H ks).all ar0=true):VerOK (aa7 H ks) E ks:=by
 intro i k hk ver v us he
 have hok:=h.ok k _ he
 rw [objsAt_get hk]
 have hal:ar0 (H.getD k .dead)=true:=List.all_eq_true.1 ha _ (List.mem_map.2 ⟨k,List.mem_of_getElem? hk,rfl⟩)
 generalize H.getD k .dead=so at *
 cases so with
 | dead=>cases hal
 | cells=>exact hok.elim
 | scells=>exact hok.elim
 | row=>exact hok.1.symm
 | srow=>exact hok.1.symm
 | deep=>exact hok.1.symm
 | mpi=>exact hok.1.symm
 | mps=>exact hok.1.symm
 | cus=>cases hal
theorem ai2 {w X E s v k} (h:R w X E s v) (hn:nameOf s=some k):E k≠none:=by
 cases h<;>simp only [nameOf,reduceCtorEq,Option.some.injEq] at hn
 all_goals (subst hn; rename_i he; first | (rw [he]; simp; done) | skip)
 all_goals (intro hc; simp_all)
theorem aX0 {w0 X0 H E w} (h:Rep w0 X0 H E w) {args:List SV}{vals:Array Value}(ha:ap4 w (Xo X0 E H) E args vals) {ks:List Nat}(hk:∀ k∈ks,E k≠none) {p:NP}(hp:aX5 H ks p) {k:Nat}(hn:nameAt H args ks p=some k):E k≠none:=by
 cases p with
 | arg i=>
  simp only [nameAt] at hn
  obtain ⟨hi,hn⟩:=ax5 hn
  exact ai2 (ha.2 i hi) hn
 | part i j=>
  simp only [nameAt] at hn
  obtain ⟨hi,hn⟩:=ax5 hn
  have hr:=ha.2 i hi
  generalize args.getD i .any=s at hr hn
  generalize vals.getD i undef=v at hr
  cases hr<;>simp only [subS,reduceCtorEq] at hn
  ·rename_i n g vs hs hr
   by_cases hj:j<n
   ·rw [if_pos hj] at hn; exact ai2 (hr j hj) hn
   ·rw [if_neg hj] at hn; cases hn
  ·rename_i n g vs hs ho hr
   by_cases hj:j<n
   ·rw [if_pos hj] at hn; exact ai2 (hr j hj) hn
   ·rw [if_neg hj] at hn; cases hn
  ·rename_i n g b o cap c T fr hb hX hc hl ho hr
   by_cases hj:j<n
   ·rw [if_pos hj] at hn; exact ai2 (hr j hj) hn
   ·rw [if_neg hj] at hn; cases hn
 | cell o j=>
  simp only [nameAt] at hn
  split at hn
  case h_2=>cases hn
  rename_i k0 hk0
  have hkn:=hk k0 (List.mem_of_getElem? hk0)
  split at hn
  case h_2=>cases hn
  rename_i n g T hso
  obtain ⟨hj,hn⟩:=ax5 hn
  cases he:E k0 with
  | none=>exact absurd he hkn
  | some e=>
   have hok:=h.ok k0 e he
   rw [hso] at hok
   cases e with
   | slc=>exact hok.elim
   | blk b=>
    obtain ⟨vs,_,_,h3⟩:=hok
    exact ai2 (h3 j hj).2 hn
 | hole o=>
  simp only [nameAt] at hn
  split at hn
  case h_2=>cases hn
  rename_i k0 hk0
  have hkn:=hk k0 (List.mem_of_getElem? hk0)
  split at hn
  case h_2=>cases hn
  rename_i ver len n c m p g T T' ho hso
  split at hn
  case h_2=>cases hn
  rename_i q
  simp only [aX5,hk0,hso] at hp
  cases he:E k0 with
  | none=>exact absurd he hkn
  | some e=>
   have hok:=h.ok k0 e he
   rw [hso] at hok
   cases e with
   | blk b=>exact hok.elim
   | slc ver' v us=>
    obtain ⟨_,xs,d⟩:=hok
    exact ai2 (d.out q.1 q.2 hp.out (by unfold hoAt; simp)).2 hn
theorem aH1 {H:List SO}{args:List SV}:∀ (ps:List NP) (ks ks':List Nat),am4 H args ps ks=some ks'->∀ (o k:Nat),ks[o]?=some k->ks'[o]?=some k
 | [],ks,ks',hn,o,k,h=>by simp only [am4,Option.some.injEq] at hn; subst hn; exact h
 | p::r,ks,ks',hn,o,k,h=>by
  simp only [am4] at hn
  split at hn
  case h_2=>cases hn
  exact aH1 r _ ks' hn o k (by rw [List.getElem?_append_left (List.getElem?_eq_some_iff.1 h).1]; exact h)
theorem holeP_pre {H:List SO}{ks ks':List Nat}{p:NP}(h:∀ (o k:Nat),ks[o]?=some k->ks'[o]?=some k) (hp:aX5 H ks' p):aX5 H ks p:=by
 cases p with
 | hole o=>
  simp only [aX5] at hp ⊢
  cases hk:ks[o]? with
  | none=>trivial
  | some k=>rw [h o k hk] at hp; exact hp
 | _=>trivial
theorem aq1 {w0 X0 H E w} (h:Rep w0 X0 H E w) {args:List SV}{vals:Array Value}(ha:ap4 w (Xo X0 E H) E args vals):∀ (ps:List NP) (ks ks':List Nat),(∀ k∈ks,E k≠none)->holesP H ks' ps->am4 H args ps ks=some ks'->(∀ k∈ks',E k≠none)/\ks'.length=ks.length+ps.length
 | [],ks,ks',hk,_,hn=>by simp only [am4,Option.some.injEq] at hn; subst hn; exact ⟨hk,rfl⟩
 | p::r,ks,ks',hk,hq,hn=>by
  simp only [am4] at hn
  split at hn
  case h_2=>cases hn
  rename_i k hk1
  obtain ⟨h1,h2⟩:=aq1 h ha r (ks++[k]) ks' (fun k' hm=>by
   rcases List.mem_append.1 hm with hm | hm
   ·exact hk k' hm
   ·rw [List.mem_singleton.1 hm]; exact aX0 h ha hk (holeP_pre (fun o k' h'=>aH1 r _ ks' hn o k' (by rw [List.getElem?_append_left (List.getElem?_eq_some_iff.1 h').1]; exact h')) hq.1) hk1) hq.2 hn
  exact ⟨h1,by rw [h2]; simp; omega⟩
theorem nameAt_ext {H HF:List SO}(he:Ext H HF) {args:List SV}{ks:List Nat}{p:NP}{k:Nat}(hn:nameAt H args ks p=some k):nameAt HF args ks p=some k:=by
 cases p with
 | arg=>exact hn
 | part=>exact hn
 | cell o j=>
  simp only [nameAt] at hn ⊢
  split at hn
  case h_2=>cases hn
  rename_i k0 hk0
  split at hn
  case h_2=>cases hn
  rename_i n g T hso
  have:HF.getD k0 .dead=H.getD k0 .dead:=he k0 (by rw [hso]; simp)
  simp only [this,hso]
  exact hn
 | hole o=>
  simp only [nameAt] at hn ⊢
  split at hn
  case h_2=>cases hn
  rename_i k0 hk0
  split at hn
  case h_2=>cases hn
  rename_i hso
  have:HF.getD k0 .dead=H.getD k0 .dead:=he k0 (by rw [hso]; simp)
  simp only [this,hso]
  exact hn
theorem av3 {H HF:List SO}(he:Ext H HF) {args:List SV}:∀ (ps:List NP) (ks ks':List Nat),am4 H args ps ks=some ks'->am4 HF args ps ks=some ks'
 | [],ks,ks',hn=>hn
 | p::r,ks,ks',hn=>by
  simp only [am4] at hn ⊢
  split at hn
  case h_2=>cases hn
  rename_i k hk1
  rw [nameAt_ext he hk1]
  exact av3 he r _ ks' hn
theorem aM5 {H HF:List SO}(he:Ext H HF) {ks:List Nat}(ha:(aa7 H ks).all ar0=true):aa7 HF ks=aa7 H ks:=by
 refine List.map_congr_left fun k hk=>he k fun hc=>?_
 have:=List.all_eq_true.1 ha _ (List.mem_map.2 ⟨k,hk,rfl⟩)
 rw [hc] at this
 cases this
def aP1 (H:List SO) (E:Env) (ks:List Nat) (b:Nat):Prop:=∃ k∈ks,∃ e,E k=some e/\holds e (H.getD k .dead) b
def smlF (X0:Fr) (H:List SO) (E:Env) (ks:List Nat):Fr:=⟨fun b=>Xo X0 E H b/\¬ aP1 H E ks b,aP1 H E ks,smlE E ks,true⟩
theorem holds_sml {os ks} (_:EI) (so:SO) (v:Value) (us:Nat->Option Nat) (ver:Nat):holds (.slc 0 v us) (smlO os ks so)=holds (.slc ver v us) so:=by
 cases so<;>first | rfl | skip
 ·funext b
  simp only [smlO,holds,af8]
 ·funext b
  simp only [smlO,holds,ae8]
theorem ai0 {os H E ks i e b} (h:smlE E ks i=some e) (hb:holds e ((List.map (smlO os ks) (aa7 H ks)).getD i .dead) b):∃ k e0,ks[i]?=some k/\E k=some e0/\holds e0 (H.getD k .dead) b:=by
 obtain ⟨k,hk,h2⟩:=an2 h
 have hget:(List.map (smlO os ks) (aa7 H ks)).getD i .dead=smlO os ks (H.getD k .dead):=by
  rw [List.getD_eq_getElem?_getD,List.getElem?_map,aa7,List.getElem?_map,hk]; rfl
 rw [hget] at hb
 rcases h2 with ⟨b0,he,rfl⟩ | ⟨ver,v,us,he,rfl⟩
 ·refine ⟨k,_,hk,he,?_⟩
  generalize H.getD k .dead=so at *
  cases so<;>simp only [smlO,holds] at hb ⊢<;>first | exact hb | cases hb
 ·exact ⟨k,_,hk,he,by rw [<-holds_sml (os:=os) (ks:=ks) (.slc 0 v us) _ v us ver]; exact hb⟩
theorem aE6 {w X X' E} (hx:∀ b,X' b->X b) {os ks} (hv:VerOK os E ks) {so:SO}:(∀ {b},EIok w X E (.blk b) so->EIok w X' (smlE E ks) (.blk b) (smlO os ks so))/\(∀ {ver v us},EIok w X E (.slc ver v us) so->EIok w X' (smlE E ks) (.slc 0 v us) (smlO os ks so)):=by
 have weak:∀ {s:SV}{v:Value},R w X E0 s v->R w X' E0 s v:=fun h=>h.mono (fun _ _ _=>rfl) (fun b _ hb=>hx b hb) (Env.le_refl _)
 constructor
 ·intro b h
  cases so with
  | dead=>trivial
  | cells n g T=>
   obtain ⟨vs,h1,h2,h3⟩:=h
   exact ⟨vs,h1,h2,fun i hi=>⟨(h3 i hi).1,ba1 hx hv (h3 i hi).2⟩⟩
  | scells n g=>
   obtain ⟨vs,T,fr,h1,h2,h3,h4⟩:=h
   exact ⟨vs,T,fr,h1,fun hc=>h2 (hx _ hc),h3,fun i hi=>⟨(h4 i hi).1,weak (h4 i hi).2⟩⟩
  | row=>exact h
  | srow=>exact h
  | deep=>exact h
  | mpi=>exact h
  | mps=>exact h
  | cus Q=>exact Q.mono (fun _ _ _ _ hc _=>hc) (fun b _ hb=>hx b hb) h
 ·intro ver v us h
  cases so with
  | dead=>trivial
  | cells=>exact h
  | scells=>exact h
  | mpi kk tot has val=>
   obtain ⟨_,b,es,clock,h1,h2,h3⟩:=h
   exact ⟨rfl,b,es,clock,h1,h2,h3.over hx⟩
  | mps kd has c m p T' ho=>
   obtain ⟨_,b,es,clock,h1,h2,d⟩:=h
   exact ⟨rfl,b,es,clock,h1,h2,d.over hx _ fun s u hu=>ba1 hx hv hu⟩
  | cus=>exact h
  | row=>
   obtain ⟨_,xs,h2,h3⟩:=h
   exact ⟨rfl,xs,h2,fun i j hi hj=>⟨(h3 i j hi hj).1,weak (h3 i j hi hj).2⟩⟩
  | srow=>exact ⟨rfl,weak h.2⟩
  | deep ver' len n c m p g T T' ho=>
   obtain ⟨_,xs,d⟩:=h
   refine ⟨rfl,xs,d.map hx (fun i hi=>by rwa [af8] at hi) (fun i sv' hi=>?_)⟩
   rw [ax9] at hi
   cases hh:hoAt ho i with
   | none=>rw [hh] at hi; cases hi
   | some sv=>
    rw [hh] at hi
    cases hi
    exact ⟨sv,rfl,fun u hu=>ba1 hx hv hu⟩
theorem Rep.sml {w0 X0 H E w} (h:Rep w0 X0 H E w) {ks:List Nat}(hn:ax1 ks=true) (ha:(aa7 H ks).all ar0=true) :
  Rep w (smlF X0 H E ks) ((aa7 H ks).map (smlO (aa7 H ks) ks)) (smlE E ks) w/\∀ b,Xo (smlF X0 H E ks) (smlE E ks) ((aa7 H ks).map (smlO (aa7 H ks) ks)) b->Xo X0 E H b:=by
 have hv:=h.aU7 ha
 have hx:∀ b,Xo (smlF X0 H E ks) (smlE E ks) ((aa7 H ks).map (smlO (aa7 H ks) ks)) b->Xo X0 E H b:=by
  rintro b (hb | ⟨i,e,he,hh⟩)
  ·exact hb.1
  ·obtain ⟨k,e0,hk,he0,hh0⟩:=ai0 he hh
   exact .inr ⟨k,e0,he0,hh0⟩
 refine ⟨⟨Bel.refl _ _,fun b hb=>⟨h.xlt b hb.1,hb.2⟩,fun i e he=>?_,fun i e he=>?_,fun i e he=>?_,fun i e b he hb=>?_,fun i i' e e' b he he' hb hb'=>?_⟩,hx⟩
 ·have he':smlE E ks i=some e:=he
  obtain ⟨k,hk,h2⟩:=an2 he'
  rcases h2 with ⟨b,hb,rfl⟩ | ⟨ver,v,us,hv,rfl⟩
  ·exact he'
  ·exact ⟨0,v,us,he',fun _=>rfl⟩
 ·obtain ⟨k,hk,_⟩:=an2 he
  rw [List.length_map,aa7,List.length_map]
  exact (List.getElem?_eq_some_iff.1 hk).1
 ·obtain ⟨k,hk,h2⟩:=an2 he
  have hget:(List.map (smlO (aa7 H ks) ks) (aa7 H ks)).getD i .dead=smlO (aa7 H ks) ks (H.getD k .dead):=by
   rw [List.getD_eq_getElem?_getD,List.getElem?_map,aa7,List.getElem?_map,hk]; rfl
  rw [hget]
  rcases h2 with ⟨b,hb,rfl⟩ | ⟨ver,v,us,hb,rfl⟩
  ·exact (aE6 hx hv).1 (h.ok k _ hb)
  ·exact (aE6 hx hv).2 (h.ok k _ hb)
 ·obtain ⟨k,e0,hk,he0,hh0⟩:=ai0 he hb
  exact .inr ⟨k,List.mem_of_getElem? hk,e0,he0,hh0⟩
 ·obtain ⟨k,e0,hk,he0,hh0⟩:=ai0 he hb
  obtain ⟨k',e1,hk',he1,hh1⟩:=ai0 he' hb'
  have:=h.inj k k' e0 e1 b he0 he1 hh0 hh1
  subst this
  have h1:=ap8 hn hk
  rw [ap8 hn hk'] at h1
  exact (Option.some.inj h1).symm
end Go.Proofs.YthappngbapbkfaaGreat.Sx
namespace Go.Proofs.YthappngbapbkfaaGreat.Sx
open Go.RowKit
def bigE (os:List SO) (ks:List Nat) (E Es:Env):Env:=fun k=>match posOf ks k with
 | some i=>match Es i with
  | some (.blk b)=>some (.blk b)
  | some (.slc ver v us)=>some (.slc (verO (os.getD i .dead)+ver) v us)
  | none=>none
 | none=>E k
theorem bigE_blk {os ks E Es k i b} (h:posOf ks k=some i) (he:Es i=some (.blk b)):bigE os ks E Es k=some (.blk b):=by simp only [bigE,h,he]
theorem bigE_slc {os ks E Es k i ver v us} (h:posOf ks k=some i) (he:Es i=some (.slc ver v us)):bigE os ks E Es k=some (.slc (verO (os.getD i .dead)+ver) v us):=by simp only [bigE,h,he]
theorem aj9 {os ks E Es k} (h:posOf ks k=none):bigE os ks E Es k=E k:=by simp only [bigE,h]
theorem bigE_inv {os ks E Es k e} (h:bigE os ks E Es k=some e):(posOf ks k=none/\E k=some e)\/∃ i,posOf ks k=some i/\((∃ b,Es i=some (.blk b)/\e = .blk b)\/∃ ver v us,Es i=some (.slc ver v us)/\e = .slc (verO (os.getD i .dead)+ver) v us):=by
 simp only [bigE] at h
 split at h
 ·rename_i i hi
  split at h
  ·rename_i b hb; cases h; exact .inr ⟨i,hi,.inl ⟨b,hb,rfl⟩⟩
  ·rename_i ver v us hv; cases h; exact .inr ⟨i,hi,.inr ⟨ver,v,us,hv,rfl⟩⟩
  ·cases h
 ·rename_i hi; exact .inl ⟨hi,h⟩
theorem ax8 {os ks v0} (so:SO):(∀ b,holds (.blk b) (bigO os ks v0 so)=holds (.blk b) so)/\∀ v us ver ver',holds (.slc ver' v us) (bigO os ks v0 so)=holds (.slc ver v us) so:=by
 constructor
 ·intro b; cases so<;>rfl
 ·intro v us ver ver'
  cases so<;>first | rfl | skip
  ·funext b
   simp only [bigO,holds,af8]
  ·funext b
   simp only [bigO,holds,ae8]
theorem Env.le_of {E E':Env}(h1:∀ k b,E k=some (.blk b)->E' k=some (.blk b)) (h2:∀ k ver v us,E k=some (.slc ver v us)->∃ ver' v' us',E' k=some (.slc ver' v' us')/\ver<=ver'/\(ver=ver'->v=v')):E.le E':=⟨h1,h2⟩
theorem Goes.of_sml {w0 X0 H E w nm} (h:Rep w0 X0 H E w) {ks:List Nat}(hn:ax1 ks=true) (hkn:∀ k∈ks,E k≠none) (ha:(aa7 H ks).all ar0=true) {post:List SO}{Es:Env}{w':World}
  (hs:Rep w (smlF X0 H E ks) post Es w') {res:SV}{v:Value}(hr:R w' (Xo (smlF X0 H E ks) Es post) Es res v) :
  Goes w0 X0 H E w nm (.sets (ai1 (aa7 H ks) ks post ks 0)) (big (aa7 H ks) ks res) v w':=by
 have hkl:∀ k∈ks,k<H.length:=fun k hk=>by
  cases he:E k with
  | none=>exact absurd he (hkn k hk)
  | some e=>exact h.dom k e he
 have hv:=h.aU7 ha
 obtain ⟨hlen,hget⟩:=aK0 (os:=aa7 H ks) (ks:=ks) (post:=post) ks 0 H hn hkl
 have getIn:∀ {k i},posOf ks k=some i->(ad9 H (ai1 (aa7 H ks) ks post ks 0)).getD k .dead=bigO (aa7 H ks) ks (verO ((aa7 H ks).getD i .dead)) (post.getD i .dead):=fun hp=>by rw [hget,hp]; simp only [Nat.zero_add]
 have getOut:∀ {k},posOf ks k=none->(ad9 H (ai1 (aa7 H ks) ks post ks 0)).getD k .dead=H.getD k .dead:=fun hp=>by rw [hget,hp]
 have le:E.le (bigE (aa7 H ks) ks E Es):=by
  refine Env.le_of (fun k b he=>?_) fun k ver v us he=>?_
  ·cases hp:posOf ks k with
   | none=>rw [aj9 hp]; exact he
   | some i=>exact bigE_blk hp (hs.nm i _ (aQ4 hp he))
  ·cases hp:posOf ks k with
   | none=>exact ⟨ver,v,us,by rw [aj9 hp]; exact he,Nat.le_refl _,fun _=>rfl⟩
   | some i=>
    obtain ⟨ver',v',us',h3,h4⟩:=hs.nm i _ (at4 hp he)
    have hvk:=hv i k (af9 hp) ver v us he
    exact ⟨_,v',us',bigE_slc hp h3,by omega,fun hc=>(h4 (by omega)).symm⟩
 have held:∀ {i k e b},posOf ks k=some i->bigE (aa7 H ks) ks E Es k=some e->holds e ((ad9 H (ai1 (aa7 H ks) ks post ks 0)).getD k .dead) b->∃ e0,Es i=some e0/\holds e0 (post.getD i .dead) b:=by
  intro i k e b hp he hb
  rw [getIn hp] at hb
  rcases bigE_inv he with ⟨hno,_⟩ | ⟨i',hp',h2⟩
  ·rw [hp] at hno; cases hno
  ·rw [hp] at hp'
   cases hp'
   rcases h2 with ⟨b0,he0,rfl⟩ | ⟨ver,v,us,he0,rfl⟩
   ·exact ⟨_,he0,by rw [(ax8 _).1] at hb; exact hb⟩
   ·exact ⟨_,he0,by rw [(ax8 _).2 v us ver] at hb; exact hb⟩
 have out:∀ {k e b},posOf ks k=none->E k=some e->holds e (H.getD k .dead) b->¬ aP1 H E ks b:=by
  rintro k e b hp he hb ⟨k',hk',e',he',hb'⟩
  have:=h.inj k k' e e' b he he' hb hb'
  subst this
  exact az8 hp hk'
 have x0d:∀ {b},X0.x b->¬ aP1 H E ks b:=by
  rintro b hb ⟨k',hk',e',he',hb'⟩
  have h1:=h.x0 b hb
  rcases h.low k' e' b he' hb' with h2 | h2
  ·omega
  ·exact h1.2 h2
 have keep:∀ b,b<w.heap.size->¬ aP1 H E ks b->w'.heap[b]?=w.heap[b]?:=fun b hlt hd=>hs.below.block b hlt hd
 have lowS:∀ {i e b},Es i=some e->holds e (post.getD i .dead) b->w.heap.size<=b\/aP1 H E ks b:=fun he hb=>hs.low _ _ _ he hb
 have hx:∀ b,Xo X0 (bigE (aa7 H ks) ks E Es) (ad9 H (ai1 (aa7 H ks) ks post ks 0)) b->Xo (smlF X0 H E ks) Es post b:=by
  rintro b (hb | ⟨k,e,he,hb⟩)
  ·exact .inl ⟨.inl hb,x0d hb⟩
  ·cases hp:posOf ks k with
   | none=>
    rw [aj9 hp] at he
    rw [getOut hp] at hb
    exact .inl ⟨.inr ⟨k,e,he,hb⟩,out hp he hb⟩
   | some i=>
    obtain ⟨e0,h1,h2⟩:=held hp he hb
    exact .inr ⟨i,e0,h1,h2⟩
 have hke:at0 (Xo X0 E H) w w':=fun b hlt hX=>keep b hlt fun ⟨k,_,e,he,hb⟩=>hX (.inr ⟨k,e,he,hb⟩)
 have hwi:ab8 (Xo X0 E H) (Xo X0 (bigE (aa7 H ks) ks E Es) (ad9 H (ai1 (aa7 H ks) ks post ks 0))) w:=by
  rintro b hlt (hb | ⟨k,e,he,hb⟩)
  ·exact .inl hb
  ·cases hp:posOf ks k with
   | none=>
    rw [aj9 hp] at he
    rw [getOut hp] at hb
    exact .inr ⟨k,e,he,hb⟩
   | some i=>
    obtain ⟨e0,h1,h2⟩:=held hp he hb
    rcases lowS h1 h2 with h3 | ⟨k',_,e',he',hb'⟩
    ·omega
    ·exact .inr ⟨k',e',he',hb'⟩
 have hbig:∀ {s:SV}{u:Value},R w' (Xo (smlF X0 H E ks) Es post) Es s u->R w' (Xo X0 (bigE (aa7 H ks) ks E Es) (ad9 H (ai1 (aa7 H ks) ks post ks 0))) (bigE (aa7 H ks) ks E Es) (big (aa7 H ks) ks s) u:=fun hr=>
  R_big hx (fun i k b hk he=>bigE_blk (ap8 hn hk) he) (fun i k ver v us hk he=>bigE_slc (ap8 hn hk) he) hr
 have weak:∀ {s:SV}{u:Value},R w' (Xo (smlF X0 H E ks) Es post) E0 s u->R w' (Xo X0 (bigE (aa7 H ks) ks E Es) (ad9 H (ai1 (aa7 H ks) ks post ks 0))) E0 s u:=fun hr=>hr.mono (fun _ _ _=>rfl) (fun b _ hb=>hx b hb) (Env.le_refl _)
 refine ⟨bigE (aa7 H ks) ks E Es,le,hke,hwi,⟨?_,h.x0,fun k e hk=>(h.nm k e hk).le le,fun k e he=>?_,fun k e he=>?_,fun k e b he hb=>?_,fun k k' e e' b he he' hb hb'=>?_⟩,hbig hr,fun k hk=> .inl fun hc=>hk ?_⟩
 ·refine ⟨hs.below.os.trans h.below.os,hs.below.tape.trans h.below.tape,hs.below.output.trans h.below.output,Nat.le_trans h.below.size hs.below.size,fun b hlt hd=>?_⟩
  refine (keep b (Nat.lt_of_lt_of_le hlt h.below.size) fun ⟨k,_,e,he,hb⟩=>?_).trans (h.below.block b hlt hd)
  rcases h.low k e b he hb with h2 | h2
  ·omega
  ·exact hd h2
 ·show k<(ad9 H (ai1 (aa7 H ks) ks post ks 0)).length
  rw [hlen]
  cases hp:posOf ks k with
  | none=>rw [aj9 hp] at he; exact h.dom k e he
  | some i=>exact hkl k (aw8 hp)
 ·show EIok w' _ _ e ((ad9 H (ai1 (aa7 H ks) ks post ks 0)).getD k .dead)
  rcases bigE_inv he with ⟨hp,he0⟩ | ⟨i,hp,h2⟩
  ·rw [getOut hp]
   exact (h.ok k e he0).mono hke hwi le fun b hb=>keep b (al3 (h.ok k e he0) hb) (out hp he0 hb)
  ·rw [getIn hp]
   rcases h2 with ⟨b0,he0,rfl⟩ | ⟨ver,v,us,he0,rfl⟩
   ·have hok:=hs.ok i _ he0
    generalize post.getD i .dead=so at hok
    cases so with
    | dead=>trivial
    | cells n g T=>
     obtain ⟨vs,h1,h2,h3⟩:=hok
     exact ⟨vs,h1,h2,fun j hj=>⟨(h3 j hj).1,hbig (h3 j hj).2⟩⟩
    | scells n g=>
     obtain ⟨vs,T,fr,h1,h2,h3,h4⟩:=hok
     exact ⟨vs,T,fr,h1,fun hc=>h2 (hx _ hc),h3,fun j hj=>⟨(h4 j hj).1,weak (h4 j hj).2⟩⟩
    | row=>exact hok
    | srow=>exact hok
    | deep=>exact hok
    | mpi=>exact hok
    | mps=>exact hok
    | cus Q=>exact Q.mono (fun _ _ _ _ hc _=>hc) (fun b _ hb=>hx b hb) hok
   ·have hok:=hs.ok i _ he0
    have hverm:∀ b0,ver=0->v = .map (some b0)->verO ((aa7 H ks).getD i .dead)+ver=0:=fun b0 hz hvm=>by
     subst hz
     subst hvm
     have hki:=af9 hp
     cases hEk:E k with
     | none=>exact absurd hEk (hkn k (aw8 hp))
     | some e0=>
      have halk:ar0 (H.getD k .dead)=true:=List.all_eq_true.1 ha _ (List.mem_map.2 ⟨k,aw8 hp,rfl⟩)
      cases e0 with
      | blk b1=>
       have:=hs.nm i _ (aQ4 hp hEk)
       rw [he0] at this
       cases this
      | slc ver1 v1 us1=>
       obtain ⟨ver2,v2,us2,g1,g2⟩:=hs.nm i _ (at4 hp hEk)
       rw [he0] at g1
       cases g1
       have hv1:=g2 rfl
       subst hv1
       have hz1:=ba3 (h.ok k _ hEk) halk
       have:=h.aU7 ha i k hki _ _ _ hEk
       omega
    generalize post.getD i .dead=so at hok
    cases so with
    | dead=>trivial
    | cells=>exact hok
    | scells=>exact hok
    | mpi kk tot has val=>
     obtain ⟨hz,b1,es,clock,h1,h2,h3⟩:=hok
     exact ⟨hverm b1 hz h1,b1,es,clock,h1,h2,h3.over hx⟩
    | mps kd has c m p T' ho=>
     obtain ⟨hz,b1,es,clock,h1,h2,d⟩:=hok
     exact ⟨hverm b1 hz h1,b1,es,clock,h1,h2,d.over hx _ fun s u hu=>hbig hu⟩
    | cus=>exact hok
    | row ver' len n g T=>
     obtain ⟨rfl,xs,h2,h3⟩:=hok
     exact ⟨rfl,xs,h2,fun i j hi hj=>⟨(h3 i j hi hj).1,weak (h3 i j hi hj).2⟩⟩
    | srow ver' len n g=>
     obtain ⟨rfl,h2⟩:=hok
     exact ⟨rfl,weak h2⟩
    | deep ver' len n c m p g T T' ho=>
     obtain ⟨rfl,xs,d⟩:=hok
     refine ⟨rfl,xs,d.map hx (fun i hi=>by rwa [af8] at hi) (fun i sv' hi=>?_)⟩
     rw [ax9] at hi
     cases hh:hoAt ho i with
     | none=>rw [hh] at hi; cases hi
     | some sv=>
      rw [hh] at hi
      cases hi
      exact ⟨sv,rfl,fun u hu=>hbig hu⟩
 ·have hb':holds e ((ad9 H (ai1 (aa7 H ks) ks post ks 0)).getD k .dead) b:=hb
  cases hp:posOf ks k with
  | none=>
   rw [aj9 hp] at he
   rw [getOut hp] at hb'
   exact h.low k e b he hb'
  | some i=>
   obtain ⟨e0,h1,h2⟩:=held hp he hb'
   rcases lowS h1 h2 with h3 | ⟨k',_,e',he',hb''⟩
   ·exact .inl (Nat.le_trans h.below.size h3)
   ·exact h.low k' e' b he' hb''
 ·have hb1:holds e ((ad9 H (ai1 (aa7 H ks) ks post ks 0)).getD k .dead) b:=hb
  have hb2:holds e' ((ad9 H (ai1 (aa7 H ks) ks post ks 0)).getD k' .dead) b:=hb'
  have mixed:∀ {k k' e e' i},posOf ks k=none->E k=some e->holds e (H.getD k .dead) b->posOf ks k'=some i->bigE (aa7 H ks) ks E Es k'=some e'->holds e' ((ad9 H (ai1 (aa7 H ks) ks post ks 0)).getD k' .dead) b->False:=by
   intro k k' e e' i hp he hb hp' he' hb'
   obtain ⟨e0,h1,h2⟩:=held hp' he' hb'
   rcases lowS h1 h2 with h3 | h3
   ·have:=al3 (h.ok k e he) hb
    omega
   ·exact out hp he hb h3
  cases hp:posOf ks k with
  | none=>
   rw [aj9 hp] at he
   rw [getOut hp] at hb1
   cases hp':posOf ks k' with
   | none=>
    rw [aj9 hp'] at he'
    rw [getOut hp'] at hb2
    exact h.inj k k' e e' b he he' hb1 hb2
   | some i'=>exact (mixed hp he hb1 hp' he' hb2).elim
  | some i=>
   cases hp':posOf ks k' with
   | none=>
    rw [aj9 hp'] at he'
    rw [getOut hp'] at hb2
    exact (mixed hp' he' hb2 hp he hb1).elim
   | some i'=>
    obtain ⟨e0,h1,h2⟩:=held hp he hb1
    obtain ⟨e1,h3,h4⟩:=held hp' he' hb2
    have:=hs.inj i i' e0 e1 b h1 h3 h2 h4
    subst this
    exact posOf_inj hp hp'
 ·cases hp:posOf ks k with
  | none=>rw [aj9 hp]; exact hc
  | some i=>exact absurd hc (hkn k (aw8 hp))
def argLe (l:List SV) (os:List SO) (a:List SV) (o:List SO):Prop:=match Nat.beq l.length a.length with
 | true=>an0 os.length os o (StLe ⟨av9 0 l,os⟩ ⟨av9 0 a,o⟩)
 | false=>False
def ad5 (f:FuncId) (paths:List NP) {γ:Type}(dec:List SV->List SO->Option γ) (args:γ->List SV) (objs:γ->List SO) (pre:γ->Prop) (res:γ->SV) (post:γ->List SO):FSpec:=
 { f:=f,eff:=true,run:=fun l H _=>match am4 H l paths [] with
   | some ks=>match ax1 ks&&(aa7 H ks).all ar0 with
     | true=>match dec (l.map (sml (aa7 H ks) ks)) ((aa7 H ks).map (smlO (aa7 H ks) ks)) with
       | some g=>some ⟨am0 (aa7 H ks) paths (argLe (l.map (sml (aa7 H ks) ks)) ((aa7 H ks).map (smlO (aa7 H ks) ks)) (args g) (objs g)/\Ask (pre g)),big (aa7 H ks) ks (res g),.sets (ai1 (aa7 H ks) ks (post g) ks 0)⟩
       | none=>none
     | false=>none
   | none=>none }
def ba5 (P:Program) (fn:Func) (m:Nat) (own:Bool) (res:SV) (post:List SO) (s:St):Prop:=
 match resS P fn.ntmps s fn.results.toList with
 | some (p,l)=>p/\match own with
  | true=>an0 m s.H post (StLe ⟨[(0,oneOf l)],s.H⟩ ⟨[(0,res)],post⟩)
  | false=>match as7 s.H (aH0 s.H 6 (oneOf l)) with
   | some fl=>aO1 (ad9 s.H fl) fun H=>match pur H 6 (oneOf l) with
    | some v=>an0 m H post (StLe ⟨[(0,v)],H⟩ ⟨[(0,res)],post⟩)
    | none=>False
   | none=>False
 | none=>False
def retM (P:Program) (fn:Func) (m:Nat) (own:Bool) (res:SV) (post:List SO):SK
 | .exit _,_=>False
 | _,s=>ba5 P fn m own res post s
theorem resM_sound {P:Program}{fn:Func}{m:Nat}{own:Bool}{res:SV}{post:List SO}{s:St}{w0 X0 a w} (hk:ba5 P fn m own res post s) (hnm:∀ k,X0.nm k≠none->k<m) (hs:StR w0 X0 fn.ntmps s a w) :
  ∃ v Es,(results fn a.tmps).run P w = .ok v w/\Rep w0 X0 post Es w/\R w (Xo X0 Es post) Es res v:=by
 obtain ⟨E,hrep,htr⟩:=hs
 unfold ba5 at hk
 split at hk
 case h_2=>exact hk.elim
 rename_i p l hres
 obtain ⟨hp,hk⟩:=hk
 obtain ⟨v,hv1,hv2⟩:=al2 rfl hrep htr hres hp
 have fin:∀ {H:List SO}{sv:SV},Rep w0 X0 H E w->R w (Xo X0 E H) E sv v->an0 m H post (StLe ⟨[(0,sv)],H⟩ ⟨[(0,res)],post⟩)->∃ v Es,(results fn a.tmps).run P w = .ok v w/\Rep w0 X0 post Es w/\R w (Xo X0 Es post) Es res v:=by
  intro H sv hrep hr hle
  obtain ⟨h1,h2⟩:=hle.get
  obtain ⟨h3,h4⟩:=hrep.le h2.2 hnm h1
  have:=ag1 h4 (fun k ver v us he ver' hr=>an6 (hrep.ok k _ he) hr) (am3 h2.1 0) hr
  exact ⟨v,_,hv1,h3,this⟩
 split at hk
 ·exact fin hrep hv2 hk
 ·split at hk
  case h_2=>exact hk.elim
  rename_i fl hfl
  rw [as8] at hk
  split at hk
  case h_2=>exact hk.elim
  rename_i sv hsv
  obtain ⟨g1,g2⟩:=ag6 _ _ _ hrep hfl
  exact fin g1 (up (ao3 g1 6 _ _ _ hsv (hv2.mono (fun _ _ _=>rfl) g2 (Env.le_refl _)))) hk
theorem aV4 {Γ:World->Fr->Prop}(hG:∀ {w0 X0 H E w ks},Γ w0 X0->Rep w0 X0 H E w->Γ w (smlF X0 H E ks)) {P:Program}{specs:List FSpec}(hspecs:∀ s∈specs,a99 Γ P s) {eqs:List (TypeId×List CK)}(heqs:∀ t n,(t,n)∈eqs->EqOK P t n) (hm:P.follows .mixedOrders=true)
  {f:FuncId}{fn:Func}{body:Code}(hf:P.funcs[f]?=some fn) (hb:fn.body=some body) (_:codeB (effS specs) body=true) (hN:(∀ w0 X0,Γ w0 X0)\/noRF body=true) (hent:∀ args w,(callFunc f args).run P w = .ok (.enter f args) w)
  {paths:List NP}{γ:Type}{dec:List SV->List SO->Option γ}{args:γ->List SV}{objs:γ->List SO}{pre:γ->Prop}{res:γ->SV}{post:γ->List SO}(A:γ->Ann) (own:Bool) (hlen:∀ g,(args g).length<=fn.ntmps)
  (h:∀ g,pre g->vc P specs eqs fn.ntmps paths.length false (A g) body (retM P fn paths.length own (res g) (post g)) ⟨av9 0 (args g),objs g⟩):a99 Γ P (ad5 f paths dec args objs pre res post):=by
 refine fun w0 X0 hΓ=>⟨hent,fun l H HF nm y he _ hrun=>?_,fun l H nm y hrun hask E w hrep hfree vals ha=>?_⟩
 ·simp only [ad5] at hrun ⊢
  split at hrun
  case h_2=>cases hrun
  rename_i ks hks
  rw [av3 he paths [] ks hks]
  split at hrun
  case h_2=>cases hrun
  rename_i hc
  simp only
  rw [aM5 he (Bool.and_eq_true _ _▸hc).2,hc]
  exact hrun
 ·simp only [ad5] at hrun
  split at hrun
  case h_2=>cases hrun
  rename_i ks hks
  split at hrun
  case h_2=>cases hrun
  rename_i hc
  rw [Bool.and_eq_true] at hc
  obtain ⟨hn,hal⟩:=hc
  split at hrun
  case h_2=>cases hrun
  rename_i g hdec
  cases hrun
  obtain ⟨⟨hle,⟨hpre⟩⟩,hholes⟩:=ap6 hask
  obtain ⟨hkn,hkl⟩:=aq1 hrep ha paths [] ks (fun k hk=>by cases hk) (aH9 hholes) hks
  have hkl':ks.length=paths.length:=by simpa using hkl
  unfold argLe at hle
  split at hle
  case h_2=>exact hle.elim
  rename_i hll
  have hll':=Nat.eq_of_beq_eq_true hll
  rw [List.length_map] at hll'
  obtain ⟨hs,hxs⟩:=hrep.sml hn hal
  have hv:=hrep.aU7 hal
  have hnm:∀ k,(smlF X0 H E ks).nm k≠none->k<paths.length:=fun k hk=>by
   cases he:smlE E ks k with
   | none=>exact absurd he hk
   | some e=>
    obtain ⟨k',hk',_⟩:=an2 he
    have:=(List.getElem?_eq_some_iff.1 hk').1
    omega
  have hT:=ap1 fn.ntmps vals (l.map (sml (aa7 H ks) ks)) w (Xo (smlF X0 H E ks) (smlE E ks) ((aa7 H ks).map (smlO (aa7 H ks) ks))) (smlE E ks) (by rw [ha.1,List.length_map]) (by rw [List.length_map,hll']; exact hlen g) (fun i hi=>by
   rw [List.length_map] at hi
   have e1:(l.map (sml (aa7 H ks) ks)).getD i .any=sml (aa7 H ks) ks (l.getD i .any):=by
    rw [List.getD_eq_getElem?_getD,List.getElem?_map,List.getD_eq_getElem?_getD,List.getElem?_eq_getElem hi]; rfl
   rw [e1]
   exact ba1 hxs hv (ha.2 i hi))
  have hst:StR w (smlF X0 H E ks) fn.ntmps ⟨av9 0 (l.map (sml (aa7 H ks) ks)),(aa7 H ks).map (smlO (aa7 H ks) ks)⟩ ⟨vals++Array.replicate (fn.ntmps-vals.size) undef,[]⟩ w:=⟨smlE E ks,hs,hT.1,au4.nil _ _ _,hT.2⟩
  have hst2:=hst.le (m:=((aa7 H ks).map (smlO (aa7 H ks) ks)).length) (fun k hk=>by rw [List.length_map,aa7,List.length_map,hkl']; exact hnm k hk) hle.get.1 hle.get.2
  refine aq7 (w0:=w) (X0:=smlF X0 H E ks) (G:=ba5 P fn paths.length own (res g) (post g)) hf hb (aE7 (Γ:=Γ) (w0:=w) (X0:=smlF X0 H E ks) (fun w0 X0 h s hs=>hspecs s hs w0 X0 h) heqs hm body hN (hG hΓ hrep) (.inl rfl) (fun _=>rfl) hnm _ _ _ _ (h g hpre) (fun e s a w' hk hs=>?_) _ w hst2) (fun s a w' hk _ hs=>?_)
  ·cases e with
   | normal=>exact ⟨s,hk,hs⟩
   | ret=>exact ⟨s,hk,hs⟩
   | exit id=>exact hk.elim
  ·obtain ⟨v,Es,h2,h3,h4⟩:=resM_sound hk hnm hs
   exact ⟨v,h2,v,rfl,Goes.of_sml hrep hn hkn hal h3 h4⟩
theorem ad2 {P:Program}{specs:List FSpec}(hspecs:∀ s∈specs,aa2 P s) {eqs:List (TypeId×List CK)}(heqs:∀ t n,(t,n)∈eqs->EqOK P t n) (hm:P.follows .mixedOrders=true)
  {f:FuncId}{fn:Func}{body:Code}(hf:P.funcs[f]?=some fn) (hb:fn.body=some body) (hc:codeB (effS specs) body=true) (hent:∀ args w,(callFunc f args).run P w = .ok (.enter f args) w)
  {paths:List NP}{γ:Type}{dec:List SV->List SO->Option γ}{args:γ->List SV}{objs:γ->List SO}{pre:γ->Prop}{res:γ->SV}{post:γ->List SO}(A:γ->Ann) (own:Bool) (hlen:∀ g,(args g).length<=fn.ntmps)
  (h:∀ g,pre g->vc P specs eqs fn.ntmps paths.length false (A g) body (retM P fn paths.length own (res g) (post g)) ⟨av9 0 (args g),objs g⟩):aa2 P (ad5 f paths dec args objs pre res post):=
 an1 fun w0 X0=>aV4 (Γ:=topG) (fun _ _=>trivial) (fun s hs=>(hspecs s hs).g) heqs hm hf hb hc (.inl fun _ _=>trivial) hent A own hlen h w0 X0 trivial
theorem Rep.pick {w0:World}{X:Nat->Prop}{H E w} (h:Rep w0 (Fr.of X) H E w) {ks:List Nat}(hn:ax1 ks=true) (ha:(aa7 H ks).all ar0=true) :
  Rep w0 (Fr.of X) ((aa7 H ks).map (smlO (aa7 H ks) ks)) (smlE E ks) w/\∀ b,Xo (Fr.of X) (smlE E ks) ((aa7 H ks).map (smlO (aa7 H ks) ks)) b->Xo (Fr.of X) E H b:=by
 have hv:=h.aU7 ha
 have hx:∀ b,Xo (Fr.of X) (smlE E ks) ((aa7 H ks).map (smlO (aa7 H ks) ks)) b->Xo (Fr.of X) E H b:=by
  rintro b (hb | ⟨i,e,he,hh⟩)
  ·exact .inl hb
  ·obtain ⟨k,e0,hk,he0,hh0⟩:=ai0 he hh
   exact .inr ⟨k,e0,he0,hh0⟩
 refine ⟨⟨h.below,h.x0,fun i e he=>(nomatch he),fun i e he=>?_,fun i e he=>?_,fun i e b he hb=>?_,fun i i' e e' b he he' hb hb'=>?_⟩,hx⟩
 ·obtain ⟨k,hk,_⟩:=an2 he
  rw [List.length_map,aa7,List.length_map]
  exact (List.getElem?_eq_some_iff.1 hk).1
 ·obtain ⟨k,hk,h2⟩:=an2 he
  have hget:(List.map (smlO (aa7 H ks) ks) (aa7 H ks)).getD i .dead=smlO (aa7 H ks) ks (H.getD k .dead):=by
   rw [List.getD_eq_getElem?_getD,List.getElem?_map,aa7,List.getElem?_map,hk]; rfl
  rw [hget]
  rcases h2 with ⟨b,hb,rfl⟩ | ⟨ver,v,us,hb,rfl⟩
  ·exact (aE6 hx hv).1 (h.ok k _ hb)
  ·exact (aE6 hx hv).2 (h.ok k _ hb)
 ·obtain ⟨k,e0,hk,he0,hh0⟩:=ai0 he hb
  exact h.low k e0 b he0 hh0
 ·obtain ⟨k,e0,hk,he0,hh0⟩:=ai0 he hb
  obtain ⟨k',e1,hk',he1,hh1⟩:=ai0 he' hb'
  have:=h.inj k k' e0 e1 b he0 he1 hh0 hh1
  subst this
  have h1:=ap8 hn hk
  rw [ap8 hn hk'] at h1
  exact (Option.some.inj h1).symm
theorem Goes.of_new {w0 X0 H E w nm} (h:Rep w0 X0 H E w) {row:SO}(hf:Free H E nm (.new (bigO [.dead] [nm] 0 row))) {Es:Env}{w':World}(hs:Rep w (Fr.of (Xo X0 E H)) [row] Es w') {res:SV}{v:Value}
  (hr:R w' (Xo (Fr.of (Xo X0 E H)) Es [row]) Es res v):Goes w0 X0 H E w nm (.new (bigO [.dead] [nm] 0 row)) (big [.dead] [nm] res) v w':=by
 have hb:=hs.below.all
 obtain ⟨f1,f2,f3⟩:=hf _ rfl
 cases he:Es 0 with
 | none=>
  refine ⟨E,Env.le_refl _,Rep.keeps hb,ab8.refl _ _,h.world hb,R_big (fun b hb=> .inl hb) (fun i k b hk he'=>?_) (fun i k ver v us hk he'=>?_) hr,fun k hk=> .inl hk⟩
  ·cases i with
   | zero=>rw [he] at he'; cases he'
   | succ i=>cases hk
  ·cases i with
   | zero=>rw [he] at he'; cases he'
   | succ i=>cases hk
 | some e=>
  have hhold:∀ b,holds e (bigO [.dead] [nm] 0 row) b->holds e row b:=by
   intro b hb
   cases e with
   | blk b0=>rw [(ax8 _).1] at hb; exact hb
   | slc ver v us=>rw [(ax8 _).2 v us ver ver] at hb; exact hb
  have hok:=hs.ok 0 e he
  have hrow:[row].getD 0 SO.dead=row:=rfl
  rw [hrow] at hok
  have hx:∀ b,Xo X0 (E.put nm e) H b->Xo (Fr.of (Xo X0 E H)) Es [row] b:=by
   rintro b (hb | ⟨k,e',hk,hh⟩)
   ·exact .inl (.inl hb)
   ·by_cases hkn:k=nm
    ·subst hkn
     rw [Env.ab1] at hk
     cases hk
     rw [f3] at hh
     exact .inr ⟨0,e,he,hhold b hh⟩
    ·rw [Env.ad0 hkn] at hk
     exact .inl (.inr ⟨k,e',hk,hh⟩)
  have n1:∀ i k b,([nm]:List Nat)[i]?=some k->Es i=some (.blk b)->(E.put nm e) k=some (.blk b):=by
   intro i k b hk he'
   cases i with
   | zero=>cases hk; rw [he] at he'; cases he'; exact Env.ab1 _ _ _
   | succ i=>cases hk
  have n2:∀ i k ver v us,([nm]:List Nat)[i]?=some k->Es i=some (.slc ver v us)->(E.put nm e) k=some (.slc (verO (([.dead]:List SO).getD i .dead)+ver) v us):=by
   intro i k ver v us hk he'
   cases i with
   | zero=>
    cases hk
    rw [he] at he'
    cases he'
    rw [Env.ab1]
    show some (EI.slc ver v us)=some (EI.slc (0+ver) v us)
    rw [Nat.zero_add]
   | succ i=>cases hk
  have hokn:EIok w' (Xo X0 (E.put nm e) H) (E.put nm e) e (bigO [.dead] [nm] 0 row):=by
   have weak:∀ {s:SV}{u:Value},R w' (Xo (Fr.of (Xo X0 E H)) Es [row]) E0 s u->R w' (Xo X0 (E.put nm e) H) E0 s u:=fun hr=>hr.mono (fun _ _ _=>rfl) (fun b _ hb=>hx b hb) (Env.le_refl _)
   cases e with
   | blk b0=>
    cases row with
    | dead=>trivial
    | cells n g T=>
     obtain ⟨vs,h1,h2,h3⟩:=hok
     exact ⟨vs,h1,h2,fun j hj=>⟨(h3 j hj).1,R_big hx n1 n2 (h3 j hj).2⟩⟩
    | scells n g=>
     obtain ⟨vs,T,fr,h1,h2,h3,h4⟩:=hok
     exact ⟨vs,T,fr,h1,fun hc=>h2 (hx _ hc),h3,fun j hj=>⟨(h4 j hj).1,weak (h4 j hj).2⟩⟩
    | row=>exact hok
    | srow=>exact hok
    | deep=>exact hok
    | mpi=>exact hok
    | mps=>exact hok
    | cus Q=>exact Q.mono (fun _ _ _ _ hc _=>hc) (fun b _ hb=>hx b hb) hok
   | slc ver v us=>
    cases row with
    | dead=>trivial
    | cells=>exact hok
    | scells=>exact hok
    | mpi kk tot has val=>
     obtain ⟨hz,b1,es,clock,h1,h2,h3⟩:=hok
     exact ⟨hz,b1,es,clock,h1,h2,h3.over hx⟩
    | mps kd has c m p T' ho=>
     obtain ⟨hz,b1,es,clock,h1,h2,d⟩:=hok
     exact ⟨hz,b1,es,clock,h1,h2,d.over hx _ fun s u hu=>R_big hx n1 n2 hu⟩
    | cus=>exact hok
    | row ver' len n g T=>
     obtain ⟨rfl,xs,h2,h3⟩:=hok
     exact ⟨(Nat.zero_add _).symm,xs,h2,fun i j hi hj=>⟨(h3 i j hi hj).1,weak (h3 i j hi hj).2⟩⟩
    | srow ver' len n g=>
     obtain ⟨rfl,h2⟩:=hok
     exact ⟨(Nat.zero_add _).symm,weak h2⟩
    | deep ver' len n c m p g T T' ho=>
     obtain ⟨rfl,xs,d⟩:=hok
     refine ⟨(Nat.zero_add _).symm,xs,d.map hx (fun i hi=>by rwa [af8] at hi) (fun i sv' hi=>?_)⟩
     rw [ax9] at hi
     cases hh:hoAt ho i with
     | none=>rw [hh] at hi; cases hi
     | some sv=>
      rw [hh] at hi
      cases hi
      exact ⟨sv,rfl,fun u hu=>R_big hx n1 n2 hu⟩
  obtain ⟨g1,g2⟩:=h.new (e:=e) f1 f2 hb (fun b hb'=>by
   rw [f3] at hb'
   rcases hs.low 0 e b he (hhold b hb') with h4 | h4
   ·exact h4
   ·exact h4.elim) (by rw [f3]; exact hokn)
  refine ⟨E.put nm e,Env.ax4 f1,Rep.keeps hb,g2,g1,R_big hx n1 n2 hr,fun k hk=>?_⟩
  by_cases hkn:k=nm
  ·exact .inr ⟨hkn,_,rfl⟩
  ·rw [Env.ad0 hkn] at hk; exact .inl hk
def deads (n:Nat):List SO:=(List.range n).map fun _=> .dead
def namesFrom (d n:Nat):List Nat:=(List.range n).map fun i=>d+i
def aR3 (f:FuncId) {γ:Type}(dec:List SV->Option γ) (args:γ->List SV) (pre:γ->Prop) (res:γ->SV) (row:γ->SO):FSpec:=
 { f:=f,eff:=false,run:=fun l _ nm=>match l.all (ac3 6) with
   | true=>match dec l with
     | some g=>some ⟨aa5.leArgs l (args g)/\Ask (pre g),big [.dead] [nm] (res g),.new (bigO [.dead] [nm] 0 (row g))⟩
     | none=>none
   | false=>none }
def aU8 (P:Program) (fn:Func) (k:Nat) (res:SV) (row:SO) (s:St):Prop:=
 match resS P fn.ntmps s fn.results.toList with
 | some (p,l)=>p/\match ar0 (s.H.getD k .dead) with
  | true=>StLe ⟨[(0,sml (aa7 s.H [k]) [k] (oneOf l))],(aa7 s.H [k]).map (smlO (aa7 s.H [k]) [k])⟩ ⟨[(0,res)],[row]⟩
  | false=>False
 | none=>False
def retN (P:Program) (fn:Func) (k:Nat) (res:SV) (row:SO):SK
 | .exit _,_=>False
 | _,s=>aU8 P fn k res row s
theorem aF5 {P:Program}{specs:List FSpec}(hspecs:∀ s∈specs,aa2 P s) {eqs:List (TypeId×List CK)}(heqs:∀ t n,(t,n)∈eqs->EqOK P t n) (hm:P.follows .mixedOrders=true)
  {f:FuncId}{fn:Func}{body:Code}(hf:P.funcs[f]?=some fn) (hb:fn.body=some body) (_:codeB (effS specs) body=true) (hent:∀ args w,(callFunc f args).run P w = .ok (.enter f args) w)
  {γ:Type}{dec:List SV->Option γ}{args:γ->List SV}{pre:γ->Prop}{res:γ->SV}{row:γ->SO}(A:γ->Ann) (k:γ->Nat) (hlen:∀ g,(args g).length<=fn.ntmps)
  (h:∀ g,pre g->vc P specs eqs fn.ntmps 0 false (A g) body (retN P fn (k g) (res g) (row g)) ⟨av9 0 (args g),[]⟩):aa2 P (aR3 f dec args pre res row):=by
 refine ⟨hent,fun args H HF nm y _ _ h=>h,fun l H nm y hrun hp w0 X0 E w hrep hfree vals ha=>?_⟩
 simp only [aR3] at hrun
 split at hrun
 case h_2=>cases hrun
 rename_i hpu
 split at hrun
 case h_2=>cases hrun
 rename_i g hdec
 cases hrun
 obtain ⟨hle,⟨hpre⟩⟩:=hp
 obtain ⟨hll,hle⟩:=al9 hle
 have hr:=az5 ha hpu
 have hsz:=ha.1
 have hxo:Xo (Fr.of (Xo X0 E H)) E0 []=Xo X0 E H:=by
  funext b
  apply propext
  exact ⟨fun hb=>hb.elim id (fun ⟨k,e,he,_⟩=>(nomatch he)),fun hb=>Or.inl hb⟩
 have hT:=ap1 fn.ntmps vals (args g) w (Xo X0 E H) E0 (by omega) (hlen g) (fun i hi=>a15 (fun _ hb=>hb) (hle i hi) (hr i (by omega)))
 refine aq7 (w0:=w) (X0:=Fr.of (Xo X0 E H)) (G:=aU8 P fn (k g) (res g) (row g)) hf hb (ba4 (w0:=w) (X0:=Fr.of (Xo X0 E H)) hspecs heqs hm body (.inl rfl) (fun _=>rfl) (fun k hk=>absurd rfl hk) _ _ _ _ (h g hpre) (fun e s a w' hk hs=>?walk) _ w ?start) (fun s a w' hk _ hs=>?fin)
 case walk=>
  cases e with
  | normal=>exact ⟨s,hk,hs⟩
  | ret=>exact ⟨s,hk,hs⟩
  | exit id=>exact hk.elim
 case fin=>
   obtain ⟨E1,hrep1,htr⟩:=hs
   unfold aU8 at hk
   split at hk
   case h_2=>exact hk.elim
   rename_i p l hres
   obtain ⟨hp,hk⟩:=hk
   obtain ⟨v,hv1,hv2⟩:=al2 rfl hrep1 htr hres hp
   split at hk
   case h_2=>exact hk.elim
   rename_i hal
   have hal':(aa7 s.H [k g]).all ar0=true:=by simp only [aa7,List.map_cons,List.map_nil,List.all_cons,hal,List.all_nil,Bool.and_self]
   obtain ⟨p1,p2⟩:=hrep1.pick (ks:=[k g]) rfl hal'
   obtain ⟨p3,p4⟩:=p1.le (m:=0) hk.2 (fun k hk=>absurd rfl hk) (by simp [NmLe,Nat.ble_eq_true_of_le (Nat.zero_le _)])
   have hsv:=ag1 p4 (fun k ver v us he ver' hr=>an6 (p1.ok k _ he) hr) (am3 hk.1 0) (ba1 p2 (hrep1.aU7 hal') hv2)
   exact ⟨v,hv1,v,rfl,Goes.of_new hrep hfree p3 hsv⟩
 case start=>
  refine ⟨E0,⟨Bel.refl _ _,fun b hb=>⟨hrep.xlt b hb,id⟩,fun k e he=>(nomatch he),fun k e he=>(nomatch he),fun k e he=>(nomatch he),fun k e b he=>(nomatch he),fun k k' e e' b he=>(nomatch he)⟩,hT.1,au4.nil _ _ _,fun t ht=>?_⟩
  rw [hxo]
  exact hT.2 t ht
def bc3 (H:List SO):List SV->Option (List SV)
 | []=>some []
 | s::r=>match pur H 6 s with
  | some s'=>match bc3 H r with
   | some r'=>some (s'::r')
   | none=>none
  | none=>none
def giv (s:FSpec):FSpec:={ f:=s.f,eff:=true,run:=fun l H nm=>match as7 H (l.flatMap (aH0 H 6)) with
  | some fl=>aO1 (ad9 H fl) fun H'=>match bc3 H' l with
    | some l'=>match s.run l' H' nm with
      | some y=>match y.eff with
        | .keep=>some ⟨y.ask,y.val,.sets fl⟩
        | _=>none
      | none=>none
    | none=>none
  | none=>none }
theorem aB8 {w0 X0 H E w} (h:Rep w0 X0 H E w):∀ {l l':List SV},bc3 H l=some l'->l'.length=l.length/\∀ i v,i<l.length->R w (Xo X0 E H) E (l.getD i .any) v->R w (Xo X0 E H) E (l'.getD i .any) v
 | [],l',hp=>by cases hp; exact ⟨rfl,fun i v hi=>absurd hi (Nat.not_lt_zero _)⟩
 | s::r,l',hp=>by
  simp only [bc3] at hp
  split at hp
  case h_2=>cases hp
  rename_i s' hs
  split at hp
  case h_2=>cases hp
  rename_i r' hr
  cases hp
  obtain ⟨h1,h2⟩:=aB8 h hr
  refine ⟨by simp [h1],fun i v hi hv=>?_⟩
  cases i with
  | zero=>exact up (ao3 h 6 _ _ _ hs hv)
  | succ i=>exact h2 i v (by simpa using hi) hv
theorem giv_at {P:Program}{w0:World}{X0:Fr}{s:FSpec}(hs:aj1 P w0 X0 s):aj1 P w0 X0 (giv s):=by
 refine ⟨hs.1,fun l H HF nm y _ hns hrun=>?_,fun l H nm y hrun hask E w hrep hfree vals ha=>?_⟩
 ·exfalso
  simp only [giv] at hrun
  split at hrun
  case h_2=>cases hrun
  rw [as8] at hrun
  split at hrun
  case h_2=>cases hrun
  split at hrun
  case h_2=>cases hrun
  split at hrun
  case h_2=>cases hrun
  cases hrun
  exact hns _ rfl
 ·simp only [giv] at hrun
  split at hrun
  case h_2=>cases hrun
  rename_i fl hfl
  rw [as8] at hrun
  split at hrun
  case h_2=>cases hrun
  rename_i l' hl'
  split at hrun
  case h_2=>cases hrun
  rename_i y' hy'
  split at hrun
  case h_2=>cases hrun
  rename_i hkeep
  cases hrun
  obtain ⟨g1,g2⟩:=ag6 _ _ _ hrep hfl
  obtain ⟨p1,p2⟩:=aB8 g1 hl'
  refine (hs.2.2 l' (ad9 H fl) nm y' hy' hask E w g1 (fun so hso=>by rw [hkeep] at hso; cases hso) vals ⟨by rw [p1]; exact ha.1,fun i hi=>?_⟩).mono ?_
  ·rw [p1] at hi
   exact p2 i _ hi ((ha.2 i hi).mono (fun _ _ _=>rfl) g2 (Env.le_refl _))
  ·rintro e w' ⟨v,rfl,E',le,hk,hx,hr,hv,hE⟩
   rw [hkeep] at hx hr hv hE
   exact ⟨v,rfl,E',le,fun b hlt hb=>hk b hlt fun hc=>hb (g2 b hlt hc),g2.trans hx,hr,hv,fun k hk=>(hE k hk).elim .inl fun ⟨_,so,hso⟩=>by cases hso⟩
theorem giv_ok {P:Program}{s:FSpec}(hs:aa2 P s):aa2 P (giv s):=an1 fun w0 X0=>giv_at (hs.at w0 X0)
def scalB:Nat->SV->Bool
 | 0,_=>false
 | f+1,sv=>match sv with
  | .int ..=>true
  | .bool _=>true
  | .lit _=>true
  | .str _=>true
  | .tup n g=>(List.range n).all fun i=>scalB f (g i)
  | _=>false
theorem aM1 {w w':World}{X X':Nat->Prop}{E E':Env}:∀ (f:Nat) (sv:SV) (v:Value),scalB f sv=true->R w X E sv v->R w' X' E' sv v
 | 0,_,_,h,_=>by cases h
 | f+1,sv,v,h,hr=>by
  cases hr with
  | int=>exact .int
  | bool=>exact .bool
  | lit=>exact .lit
  | str=>exact .str
  | tup hs hr=>exact .tup hs fun i hi=>aM1 f _ _ (ad4 h hi) (hr i hi)
  | _=>simp [scalB] at h
def peek (H:List SO) (sv:SV):Option SV:=match sv with
  | .own k off=>match H.getD k .dead with
   | .scells n g=>if off<=n then some (.ref (n-off) (fun j=>g (off+j))) else none
   | .cells n g _=>if off<=n/\(List.range n).all (fun i=>ac3 6 (g i))=true then some (.ref (n-off) (fun j=>g (off+j))) else none
   | _=>none
  | .osl k ver=>match H.getD k .dead with
   | .srow ver' len n g=>if ver=ver' then some (.sl len n g) else none
   | .row ver' len n g _=>if ver=ver' then some (.sl len n g) else none
   | .deep ver' len n c m p g _ _ ho=>match ho with
    | none=>if ver=ver' then some (.sl len n (a90 c m p g)) else none
    | some _=>none
   | _=>none
  | .ownAt ..=>none
  | .win k ver n lo len=>match H.getD k .dead with
   | .srow ver' _ n' g=>if ver=ver'/\n=n' then some (.sl len n (fun i j=>g (lo+i) j)) else none
   | .row ver' _ n' g _=>if ver=ver'/\n=n' then some (.sl len n (fun i j=>g (lo+i) j)) else none
   | .deep ver' _ n' c m p g _ _ ho=>match ho with
    | none=>if ver=ver'/\n=n' then some (.sl len n (fun i j=>a90 c m p g (lo+i) j)) else none
    | some _=>none
   | _=>none
  | s=>match ac3 6 s with
   | true=>some s
   | false=>none
theorem aV6 {w0 X0 H E w} (h:Rep w0 X0 H E w) {k ver:Nat}{v:Value}{us:Nat->Option Nat}(he:E k=some (.slc ver v us)) {ver' len n:Nat}{G:Nat->Nat->SV}
  (hs:(∃ g T,H.getD k .dead = .row ver' len n g T/\G=g)\/(∃ g,H.getD k .dead = .srow ver' len n g/\G=g)\/∃ c m p g T T',H.getD k .dead = .deep ver' len n c m p g T T' none/\G=a90 c m p g) :
  ver=ver'/\R w (fun _=>False) E0 (.sl len n G) v:=by
 have hok:=h.ok k _ he
 have weak:∀ {s:SV}{v:Value},R w (Xo X0 E H) E0 s v->R w (fun _=>False) E0 s v:=fun h=>h.mono (fun _ _ _=>rfl) (fun b _ hb=>hb.elim) (Env.le_refl _)
 rcases hs with ⟨g,T,hk,rfl⟩ | ⟨g,hk,rfl⟩ | ⟨c,m,p,g,T,T',hk,rfl⟩<;>rw [hk] at hok
 ·obtain ⟨h1,xs,h2,h3⟩:=hok
  exact ⟨h1,h2.toSl (T:=T) (fun b _ hb=>hb) fun i j hi hj=>⟨(h3 i j hi hj).1,weak (h3 i j hi hj).2⟩⟩
 ·exact ⟨hok.1,weak hok.2⟩
 ·obtain ⟨h1,xs,d⟩:=hok
  refine ⟨h1,d.own.toSl (T:=T) (fun b _ hb=>hb) fun i j hi hj=>?_⟩
  cases j with
  | succ j=>exact ⟨(d.rest i (j+1) hi (Nat.succ_pos _) hj).1,weak (d.rest i (j+1) hi (Nat.succ_pos _) hj).2⟩
  | zero=>
   obtain ⟨g1,ys,g2,g3⟩:=d.inn i hi rfl
   rw [Nat.add_zero]
   refine ⟨?_,g2.toSl (T:=T') (fun b _ hb=>hb) fun i' j' hi' hj'=>⟨(g3 i' j' hi' hj').1,weak (g3 i' j' hi' hj').2⟩⟩
   obtain ⟨a,a2,a3,e⟩:=g2.slice
   rw [e]; rfl
theorem peek_sound {w0 X0 H E w} (h:Rep w0 X0 H E w) (sv sv':SV) (v:Value) (hp:peek H sv=some sv') (hr:R w (Xo X0 E H) E sv v):R w (fun _=>False) E0 sv' v:=by
  have weak:∀ {s:SV}{v:Value},R w (Xo X0 E H) E0 s v->R w (fun _=>False) E0 s v:=fun h=>h.mono (fun _ _ _=>rfl) (fun b _ hb=>hb.elim) (Env.le_refl _)
  have pu:∀ {s:SV}{v:Value},R w (Xo X0 E H) E s v->(match ac3 6 s with
   | true=>some s
   | false=>none)=some sv'->R w (fun _=>False) E0 sv' v:=fun hr hp=>by
   split at hp
   ·rename_i hb; cases hp; exact weak (ad8 6 _ _ hb hr)
   ·cases hp
  have old:∀ {k ver ver' v' us},E k=some (.slc ver' v' us)->ver<ver'->∀ {G:Nat->Nat->SV}{len n:Nat},((∃ g T,H.getD k .dead = .row ver len n g T/\G=g)\/(∃ g,H.getD k .dead = .srow ver len n g/\G=g)\/∃ c m p g T T',H.getD k .dead = .deep ver len n c m p g T T' none/\G=a90 c m p g)->False:=fun he hl G len n hs=>by
   have:=(aV6 h he hs).1
   omega
  have win:∀ {k ver n lo len a a0 len0 cap0 us len1} {G:Nat->Nat->SV},E k=some (.slc ver (.slice a0 len0 cap0) us)->lo+len<=len0->(len≠0->a=a0.map (·.add (lo*n)))->
    ((∃ g T,H.getD k .dead = .row ver len1 n g T/\G=g)\/(∃ g,H.getD k .dead = .srow ver len1 n g/\G=g)\/∃ c m p g T T',H.getD k .dead = .deep ver len1 n c m p g T T' none/\G=a90 c m p g)->
    R w (fun _=>False) E0 (.sl len n (fun i j=>G (lo+i) j)) (.slice a len (cap0-lo)):=by
   intro k ver n lo len a a0 len0 cap0 us len1 G he hl ha hs
   have hr2:=(aV6 h he hs).2
   by_cases hz:len=0
   ·subst hz; exact .sl0
   ·cases hr2 with
    | sl0=>omega
    | sl hb hX hc hlc ho hr=>
     rename_i b o c T fr
     rw [ha hz]
     have hle:=Nat.mul_le_mul_right n hl
     rw [Nat.add_mul] at hle
     have hadd:(some (⟨b,o,none⟩:Addr)).map (·.add (lo*n))=some ⟨b,o+lo*n,none⟩:=by rw [Option.map_some]; exact congrArg some (Addr.add_lit b o _)
     rw [hadd]
     have e1:∀ i j,o+lo*n+i*n+j=o+(lo+i)*n+j:=fun i j=>by rw [Nat.add_mul]; omega
     refine .sl hb hX (by omega) (by omega) (fun i j hi hj=>?_) fun i j hi hj=>?_
     ·rw [e1]; exact ho _ _ (by omega) hj
     ·rw [e1]; exact hr _ _ (by omega) hj
  cases hr with
  | any=>exact pu .any hp
  | int=>exact pu .int hp
  | bool=>exact pu .bool hp
  | lit=>exact pu .lit hp
  | str=>exact pu .str hp
  | nilfn=>exact pu .nilfn hp
  | cap0=>exact pu .cap0 hp
  | fn hs hr=>exact pu (.fn hs hr) hp
  | fnb hs hr=>exact pu (.fnb hs hr) hp
  | agg hs ho hr=>exact pu (.agg hs ho hr) hp
  | tup hs hr=>exact pu (.tup hs hr) hp
  | sl0=>exact pu .sl0 hp
  | sl hb hX hc hl ho hr=>exact pu (.sl hb hX hc hl ho hr) hp
  | ref hb hX hc ho hr=>exact pu (.ref hb hX hc ho hr) hp
  | own he=>
   rename_i k off b
   simp only [peek] at hp
   have hok:=h.ok k _ he
   generalize H.getD k .dead=so at hp hok
   cases so<;>simp only [reduceCtorEq] at hp
   ·rename_i n g T
    obtain ⟨⟨ha,hall⟩,rfl⟩:=aa0 hp
    obtain ⟨vs,h1,h2,h3⟩:=hok
    exact .ref h1 (fun hb=>hb) (by omega) (fun j hj=>(h3 (off+j) (by omega)).1) fun j hj=>weak (ad8 6 _ _ (ad4 hall (by omega)) (h3 (off+j) (by omega)).2)
   ·rename_i n g
    obtain ⟨ha,rfl⟩:=aa0 hp
    obtain ⟨vs,T,fr,h1,h2,h3,h4⟩:=hok
    exact .ref h1 (fun hb=>hb) (by omega) (fun j hj=>(h4 (off+j) (by omega)).1) fun j hj=>weak (h4 (off+j) (by omega)).2
  | osl he hv=>
   rename_i k ver us
   simp only [peek] at hp
   generalize hk:H.getD k .dead=so at hp
   cases so<;>simp only [reduceCtorEq] at hp
   ·obtain ⟨rfl,rfl⟩:=aa0 hp
    exact (aV6 h he (.inl ⟨_,_,hk,rfl⟩)).2
   ·obtain ⟨rfl,rfl⟩:=aa0 hp
    exact (aV6 h he (.inr (.inl ⟨_,hk,rfl⟩))).2
   ·split at hp
    case h_2=>cases hp
    obtain ⟨rfl,rfl⟩:=aa0 hp
    exact (aV6 h he (.inr (.inr ⟨_,_,_,_,_,_,hk,rfl⟩))).2
  | oslOld he hlt hv=>
   rename_i k ver ver' v' us
   simp only [peek] at hp
   generalize hk:H.getD k .dead=so at hp
   cases so<;>simp only [reduceCtorEq] at hp
   ·obtain ⟨rfl,rfl⟩:=aa0 hp
    exact (old he hlt (.inl ⟨_,_,hk,rfl⟩)).elim
   ·obtain ⟨rfl,rfl⟩:=aa0 hp
    exact (old he hlt (.inr (.inl ⟨_,hk,rfl⟩))).elim
   ·split at hp
    case h_2=>cases hp
    obtain ⟨rfl,rfl⟩:=aa0 hp
    exact (old he hlt (.inr (.inr ⟨_,_,_,_,_,_,hk,rfl⟩))).elim
  | ownAt=>simp [peek] at hp
  | con=>exact pu .con hp
  | slP=>simp [peek,ac3] at hp
  | refP=>simp [peek,ac3] at hp
  | ifc ho hr=>exact pu (.ifc ho hr) hp
  | pin=>simp [peek,ac3] at hp
  | part=>simp [peek,ac3] at hp
  | partOld=>simp [peek,ac3] at hp
  | omap=>simp [peek,ac3] at hp
  | omapOld=>simp [peek,ac3] at hp
  | ownAtOld=>simp [peek] at hp
  | win he hl ha h0=>
   rename_i k ver n lo len a a0 len0 cap0 us
   simp only [peek] at hp
   generalize hk:H.getD k .dead=so at hp
   cases so<;>simp only [reduceCtorEq] at hp
   ·obtain ⟨⟨rfl,rfl⟩,rfl⟩:=aa0 hp
    exact win he hl ha (.inl ⟨_,_,hk,rfl⟩)
   ·obtain ⟨⟨rfl,rfl⟩,rfl⟩:=aa0 hp
    exact win he hl ha (.inr (.inl ⟨_,hk,rfl⟩))
   ·split at hp
    case h_2=>cases hp
    obtain ⟨⟨rfl,rfl⟩,rfl⟩:=aa0 hp
    exact win he hl ha (.inr (.inr ⟨_,_,_,_,_,_,hk,rfl⟩))
  | nilsl=>exact pu .nilsl hp
  | slN hr=>exact pu (.slN hr) hp
  | winOld he hlt hv=>
   rename_i k ver ver' v' n lo len us
   simp only [peek] at hp
   generalize hk:H.getD k .dead=so at hp
   cases so<;>simp only [reduceCtorEq] at hp
   ·obtain ⟨⟨rfl,rfl⟩,rfl⟩:=aa0 hp
    exact (old he hlt (.inl ⟨_,_,hk,rfl⟩)).elim
   ·obtain ⟨⟨rfl,rfl⟩,rfl⟩:=aa0 hp
    exact (old he hlt (.inr (.inl ⟨_,hk,rfl⟩))).elim
   ·split at hp
    case h_2=>cases hp
    obtain ⟨⟨rfl,rfl⟩,rfl⟩:=aa0 hp
    exact (old he hlt (.inr (.inr ⟨_,_,_,_,_,_,hk,rfl⟩))).elim
theorem peek_ext {H HF:List SO}(he:Ext H HF) {sv sv':SV}(hp:peek H sv=some sv'):peek HF sv=some sv':=by
 cases sv<;>simp only [peek,reduceCtorEq] at hp ⊢
 case own k off=>
  generalize hk:H.getD k .dead=so at hp
  cases so<;>simp only [reduceCtorEq] at hp<;>rw [he k (by rw [hk]; simp),hk]<;>exact hp
 case osl k ver=>
  generalize hk:H.getD k .dead=so at hp
  cases so<;>simp only [reduceCtorEq] at hp<;>rw [he k (by rw [hk]; simp),hk]<;>exact hp
 case win k ver n lo len=>
  generalize hk:H.getD k .dead=so at hp
  cases so<;>simp only [reduceCtorEq] at hp<;>rw [he k (by rw [hk]; simp),hk]<;>exact hp
 all_goals exact hp
def as3 (H:List SO):List SV->Option (List SV)
 | []=>some []
 | s::r=>match peek H s with
  | some s'=>match as3 H r with
   | some r'=>some (s'::r')
   | none=>none
  | none=>none
def lend (s:FSpec):FSpec:={ f:=s.f,eff:=false,run:=fun l H nm=>match as3 H l with
  | some l'=>match s.run l' [] 0 with
    | some y=>match y.eff with
      | .keep=>match scalB 3 y.val with
        | true=>some ⟨y.ask,y.val,.keep⟩
        | false=>none
      | _=>none
    | none=>none
  | none=>none }
theorem ap9 {w0 X0 H E w} (h:Rep w0 X0 H E w):∀ {l l':List SV},as3 H l=some l'->l'.length=l.length/\∀ i v,i<l.length->R w (Xo X0 E H) E (l.getD i .any) v->R w (fun _=>False) E0 (l'.getD i .any) v
 | [],l',hp=>by cases hp; exact ⟨rfl,fun i v hi=>absurd hi (Nat.not_lt_zero _)⟩
 | s::r,l',hp=>by
  simp only [as3] at hp
  split at hp
  case h_2=>cases hp
  rename_i s' hs
  split at hp
  case h_2=>cases hp
  rename_i r' hr
  cases hp
  obtain ⟨h1,h2⟩:=ap9 h hr
  refine ⟨by simp [h1],fun i v hi hv=>?_⟩
  cases i with
  | zero=>exact peek_sound h _ _ _ hs hv
  | succ i=>exact h2 i v (by simpa using hi) hv
theorem av1 {H HF:List SO}(he:Ext H HF):∀ {l l':List SV},as3 H l=some l'->as3 HF l=some l'
 | [],l',hp=>hp
 | s::r,l',hp=>by
  simp only [as3] at hp ⊢
  split at hp
  case h_2=>cases hp
  rename_i s' hs
  split at hp
  case h_2=>cases hp
  rename_i r' hr
  cases hp
  rw [peek_ext he hs,av1 he hr]
theorem lend_ok {P:Program}{s:FSpec}(hs:aa2 P s):aa2 P (lend s):=by
 refine ⟨hs.1,fun l H HF nm y he hns hrun=>?_,fun l H nm y hrun hask w0 X0 E w hrep hfree vals ha=>?_⟩
 ·simp only [lend] at hrun ⊢
  split at hrun
  case h_2=>cases hrun
  rename_i l' hl'
  rw [av1 he hl']
  exact hrun
 ·simp only [lend] at hrun
  split at hrun
  case h_2=>cases hrun
  rename_i l' hl'
  split at hrun
  case h_2=>cases hrun
  rename_i y' hy'
  split at hrun
  case h_2=>cases hrun
  rename_i hkeep
  split at hrun
  case h_2=>cases hrun
  rename_i hsc
  cases hrun
  obtain ⟨p1,p2⟩:=ap9 hrep hl'
  have hrep0:Rep w (Fr.of fun _=>False) [] E0 w:=⟨Bel.refl _ _,fun b hb=>hb.elim,fun k e he=>(nomatch he),fun k e he=>(nomatch he),fun k e he=>(nomatch he),fun k e b he=>(nomatch he),fun k k' e e' b he=>(nomatch he)⟩
  have hno:∀ b,¬ Xo (Fr.of fun _=>False) E0 [] b:=fun b hb=>hb.elim id fun ⟨k,e,he,_⟩=>(nomatch he)
  refine (hs.2.2 l' [] 0 y' hy' hask w (Fr.of fun _=>False) E0 w hrep0 (fun so hso=>by rw [hkeep] at hso; cases hso) vals ⟨by rw [p1]; exact ha.1,fun i hi=>?_⟩).mono ?_
  ·rw [p1] at hi
   exact (p2 i _ hi (ha.2 i hi)).mono (fun _ _ _=>rfl) (fun b _ hb=>(hno b hb).elim) (Env.le_refl _)
  ·rintro e w' ⟨v,rfl,E',_,_,_,hr,hv,_⟩
   exact ⟨v,rfl,Goes.world hrep hr.below.all (aM1 3 _ _ hsc hv)⟩
end Go.Proofs.YthappngbapbkfaaGreat.Sx
set_option linter.unusedSimpArgs false
set_option linter.unusedVariables false
namespace Go.Proofs.YthappngbapbkfaaGreat.Img
open Go.RowKit Sx Num Aff Afi
set_option maxRecDepth 100000
structure Ink where
 c0:Int
 c1:Int
 c2:Int
 c3:Int
 c4:Int
 c5:Int
 c6:Int
 c7:Int
def inkD (f:Nat->SV):Ink:=⟨Sx.intOf (f 0),Sx.intOf (f 1),Sx.intOf (f 2),Sx.intOf (f 3),Sx.intOf (f 4),Sx.intOf (f 5),Sx.intOf (f 6),Sx.intOf (f 7)⟩
structure ImgG where
 w:Int
 h:Int
 n:Nat
 px:Nat->Ink
 sn:Nat
 sf:Nat->Int
 m:Mat
 smooth:Bool
 rep:Bool
def inkL (f:Ink):List SV:=[.int .u8 f.c0,.int .u8 f.c1,.int .u8 f.c2,.int .u8 f.c3,.int .u8 f.c4,.int .u8 f.c5,.int .u8 f.c6,.int .u8 f.c7]
def imgL (g:ImgG):List SV:=[.int .i64 g.w,.int .i64 g.h,.sl g.n 8 (fun i=>lst (inkL (g.px i))),.sl g.sn 1 (fun i _=> .int .u8 (g.sf i)),
 .int .i64 g.m.a,.int .i64 g.m.b,.int .i64 g.m.c,.int .i64 g.m.d,.int .i64 g.m.e,.int .i64 g.m.f,.bool g.smooth,.bool g.rep]
def imgS (g:ImgG):SV:= .agg 12 (lst (imgL g))
def pxD:SV->Nat->Ink
 | .sl _ _ f=>fun i=>inkD (f i)
 | _=>fun _=>⟨0,0,0,0,0,0,0,0⟩
def imgD (g:Nat->SV):ImgG:=⟨Sx.intOf (g 0),Sx.intOf (g 1),aj0 (g 2),pxD (g 2),aj0 (g 3),slCell 0 (g 3),⟨Sx.intOf (g 4),Sx.intOf (g 5),Sx.intOf (g 6),Sx.intOf (g 7),Sx.intOf (g 8),Sx.intOf (g 9)⟩,az4 (g 10),az4 (g 11)⟩
def ImgG.chk (g:ImgG):Int:=
 if g.w<1\/256<g.w\/g.h<1\/256<g.h then 3 else if (g.n:Int)≠g.w*g.h\/(g.sn≠0/\(g.sn:Int)≠g.w*g.h) then 4 else invE g.m
def bb8:FSpec:=aa5 54 (γ:=ImgG) (fun | [.agg _ g]=>some (imgD g) | _=>none) (fun g=>[imgS g]) (fun _=>True) (fun g=> .int .i64 g.chk)
theorem ok_checkI:aa2 Tryz.prog bb8:=by
 refine aa1 (specs:=[aQ2]) (aa9 (⟨aW6,trivial⟩)) (eqs:=[]) (fun _ _ h=>(List.not_mem_nil h).elim) Aff.mixed Tryz.func54 rfl (by kernel_rfl) (fun _ _=>by kernel_rfl) (fun g=>A0) (fun g=>Nat.le_of_ble_eq_true (by kernel_rfl)) ?_
 rintro g _
 refine ab5 (B:=let T5:=fun p:Prop=>True/\True/\True/\True/\True/\p;let T7:=fun p:Prop=>True/\True/\True/\True/\True/\True/\True/\p;let T9:=fun p:Prop=>True/\True/\True/\True/\True/\True/\True/\True/\True/\p;let K:=Sx.Br;let A:=Sx.Ask;let z2:=((3:Int)=g.chk);let z0:=(IntKind.i64=IntKind.i64);let q0:=fun p:Int=>A z0/\A (p=p);let z1:=((((((((True/\q0 g.m.a)/\q0 g.m.b)/\q0 g.m.c)/\q0 g.m.d)/\q0 g.m.e)/\q0 g.m.f)/\True)/\A True);T5 (True/\K (decide (g.w<(1:Int))) (T7 (A z0/\A z2)) (T5 (K (decide ((256:Int)<g.w)) (T5 (A z0/\A z2)) (T5 (K (decide (g.h<(1:Int))) (True/\True/\True/\A z0/\A z2) (True/\True/\True/\True/\K (decide ((256:Int)<g.h)) (True/\True/\A z0/\A z2) (True/\True/\True/\True/\A ((-9223372036854775808:Int)<=g.w*g.h/\g.w*g.h<=(9223372036854775807:Int))/\T7 (K (decide ((↑g.n:Int)≠g.w*g.h)) (True/\True/\True/\A z0/\A ((4:Int)=g.chk)) (T5 (K (decide ((↑g.sn:Int)≠(0:Int))) (T7 (K (decide ((↑g.sn:Int)≠g.w*g.h)) (True/\True/\A z0/\A ((4:Int)=g.chk)) (True/\True/\z1/\T9 (A z0/\A (Afi.invE g.m=g.chk))))) (True/\True/\True/\True/\z1/\T9 (A z0/\A (Afi.invE g.m=g.chk)))))))))))))) (by kernel_rfl) ?_
 simp only [aa4,aa8,eq_self,true_and,and_true,implies_true,forall_const,decide_eq_true_eq,decide_eq_false_iff_not,ne_eq,Nat.mul_one,Nat.add_zero,Nat.zero_add]
 have hp:(1<=g.w/\g.w<=256)->(1<=g.h/\g.h<=256)->0<=g.w*g.h/\g.w*g.h<=256*256:=fun h1 h2=>⟨Int.mul_nonneg (by omega) (by omega),Int.mul_le_mul h1.2 h2.2 (by omega) (by omega)⟩
 unfold ImgG.chk
 generalize hP:g.w*g.h=Q at hp ⊢
 generalize invE g.m=E
 refine ⟨fun h1=>by omega,fun h1=>⟨fun h2=>by omega,fun h2=>⟨fun h3=>by omega,fun h3=>⟨fun h4=>by omega,fun h4=>?_⟩⟩⟩⟩
 have hq:=hp ⟨by omega,by omega⟩ ⟨by omega,by omega⟩
 refine ⟨by omega,fun h5=>by omega,fun h5=>⟨fun h6=>⟨fun h7=>by omega,fun h7=>by omega⟩,fun h6=>by omega⟩⟩
structure SmG where
 g:ImgG
 u:Int
 v:Int
def ImgG.ok (g:ImgG):Prop:=((1<=g.w/\g.w<=256)/\1<=g.h/\g.h<=256)/\(g.n:Int)=g.w*g.h/\(g.sn=0\/(g.sn:Int)=g.w*g.h)/\∀ i,i<g.sn->0<=g.sf i/\g.sf i<=255
def SmG.ok (s:SmG):Prop:=s.g.ok/\(-1099511627776<=s.u/\s.u<=1099511627776)/\ -1099511627776<=s.v/\s.v<=1099511627776
def SmG.out (s:SmG):Bool:=!s.g.rep&&decide (s.u<0\/s.v<0\/s.g.w<=s.u\/s.g.h<=s.v)
def SmG.at (s:SmG):Nat:=(bif s.g.rep then (s.v % s.g.h)*s.g.w+s.u % s.g.w else s.v*s.g.w+s.u).toNat
def SmG.ink (s:SmG):Ink:=bif s.out then ⟨0,0,0,0,0,0,0,0⟩ else s.g.px s.at
def SmG.soft (s:SmG):Int:=bif s.out then 0 else if s.g.sn=0 then 255 else max 0 (min 255 (s.g.sf s.at))
def aQ1:FSpec:=aa5 108 (γ:=SmG) (fun | [.agg _ g,.int _ u,.int _ v]=>some ⟨imgD g,u,v⟩ | _=>none) (fun s=>[imgS s.g,.int .i64 s.u,.int .i64 s.v]) SmG.ok (fun s=> .tup 2 (lst [.agg 8 (lst (inkL s.ink)),.int .u8 s.soft]))
theorem aW5:aa2 Tryz.prog aQ1:=by
 refine aa1 (specs:=[spQuo]) (aa9 (⟨ok_quo,trivial⟩)) (eqs:=[]) (fun _ _ h=>(List.not_mem_nil h).elim) Aff.mixed Tryz.func108 rfl (by kernel_rfl) (fun _ _=>by kernel_rfl) (fun g=>A0) (fun g=>Nat.le_of_ble_eq_true (by kernel_rfl)) ?_
 rintro ⟨g,u,v⟩ hs
 refine ab5 (B:=let T3:=fun p:Prop=>True/\True/\True/\p;let T4:=fun p:Prop=>True/\True/\True/\True/\p;let T5:=fun p:Prop=>True/\True/\True/\True/\True/\p;let K:=Sx.Br;let A:=Sx.Ask;let z13:=(True/\True);let z12:=(IntKind.i64=IntKind.i64);let q12:=fun p:Int=>A z12/\A (p=p);let z11:=(0:Int);let z15:=(z11<=v*g.w+u/\v*g.w+u<(↑g.n:Int));let z10:=(u-u / g.w*g.w);let z9:=(g.px (v*g.w+u).toNat);let z8:=(v-v / g.h*g.h);let z14:=(z11<=z8*g.w+z10/\z8*g.w+z10<(↑g.n:Int));let z7:=(-9223372036854775808:Int);let z6:=(9223372036854775807:Int);let z5:=(SmG.mk g u v);let z16:=(z11=z5.soft);let z4:=(g.px (z8*g.w+z10).toNat);let z3:=(IntKind.u8=IntKind.u8);let z2:=(True/\(((((((True/\A z3/\A (z9.c0=z5.ink.c0))/\A z3/\A (z9.c1=z5.ink.c1))/\A z3/\A (z9.c2=z5.ink.c2))/\A z3/\A (z9.c3=z5.ink.c3))/\A z3/\A (z9.c4=z5.ink.c4))/\A z3/\A (z9.c5=z5.ink.c5))/\A z3/\A (z9.c6=z5.ink.c6))/\A z3/\A (z9.c7=z5.ink.c7));let z1:=(True/\(((((((True/\A z3/\A (z4.c0=z5.ink.c0))/\A z3/\A (z4.c1=z5.ink.c1))/\A z3/\A (z4.c2=z5.ink.c2))/\A z3/\A (z4.c3=z5.ink.c3))/\A z3/\A (z4.c4=z5.ink.c4))/\A z3/\A (z4.c5=z5.ink.c5))/\A z3/\A (z4.c6=z5.ink.c6))/\A z3/\A (z4.c7=z5.ink.c7));let z0:=(True/\(((((((True/\A z3/\A (z11=z5.ink.c0))/\A z3/\A (z11=z5.ink.c1))/\A z3/\A (z11=z5.ink.c2))/\A z3/\A (z11=z5.ink.c3))/\A z3/\A (z11=z5.ink.c4))/\A z3/\A (z11=z5.ink.c5))/\A z3/\A (z11=z5.ink.c6))/\A z3/\A (z11=z5.ink.c7));T5 (K g.rep (T4 ((((q12 u)/\(q12 g.w)/\True)/\A (((-4611686018427387904:Int)<=u/\u<=(4611686018427387904:Int))/\(1:Int)<=g.w/\g.w<=z6))/\True/\True/\A (z7<=u / g.w*g.w/\u / g.w*g.w<=z6)/\A (z7<=u-u / g.w*g.w/\u-u / g.w*g.w<=z6)/\T4 ((((q12 v)/\(q12 g.h)/\True)/\A (((-4611686018427387904:Int)<=v/\v<=(4611686018427387904:Int))/\(1:Int)<=g.h/\g.h<=z6))/\True/\True/\A (z7<=v / g.h*g.h/\v / g.h*g.h<=z6)/\A (z7<=v-v / g.h*g.h/\v-v / g.h*g.h<=z6)/\T5 (A (z7<=z8*g.w/\z8*g.w<=z6)/\True/\A (z7<=z8*g.w+z10/\z8*g.w+z10<=z6)/\T5 (K (decide ((↑g.sn:Int)=z11)) (T3 (A z14/\T3 (z13/\z1/\A z3/\A ((255:Int)=z5.soft)))) (T3 (A z14/\T4 (A (z11<=z8*g.w+z10/\z8*g.w+z10<(↑g.sn:Int))/\T3 (z13/\z1/\A z3/\A (g.sf (z8*g.w+z10).toNat=z5.soft)))))))))) (T3 (K (decide (u<z11)) (T5 (T3 (z13/\z0/\A z3/\A z16))) (T4 (K (decide (v<z11)) (T5 (True/\z13/\z0/\A z3/\A z16)) (T5 (True/\K (decide (g.w<=u)) (T4 (z13/\z0/\A z3/\A z16)) (T5 (K (decide (g.h<=v)) (T3 (z13/\z0/\A z3/\A z16)) (T3 (A (z7<=v*g.w/\v*g.w<=z6)/\True/\A (z7<=v*g.w+u/\v*g.w+u<=z6)/\T5 (K (decide ((↑g.sn:Int)=z11)) (T3 (A z15/\T3 (z13/\z2/\A z3/\A ((255:Int)=z5.soft)))) (T3 (A z15/\T4 (A (z11<=v*g.w+u/\v*g.w+u<(↑g.sn:Int))/\T3 (z13/\z2/\A z3/\A (g.sf (v*g.w+u).toNat=z5.soft)))))))))))))))))) (by kernel_rfl) ?_
 simp only [aa4,aa8,eq_self,true_and,and_true,implies_true,forall_const,decide_eq_true_eq,decide_eq_false_iff_not,ne_eq,Nat.mul_one,Nat.add_zero,Nat.zero_add]
 obtain ⟨⟨⟨⟨w1,w2⟩,h1,h2⟩,hn,hsn,hsf⟩,⟨hu,hu'⟩,hv,hv'⟩:=hs
 simp only at w1 w2 h1 h2 hn hsn hsf hu hu' hv hv'
 have mu:=Int.emod_add_mul_ediv u g.w
 have mv:=Int.emod_add_mul_ediv v g.h
 have bu:=Int.emod_nonneg u (b:=g.w) (by omega)
 have bu':=Int.emod_lt_of_pos u (b:=g.w) (by omega)
 have bv:=Int.emod_nonneg v (b:=g.h) (by omega)
 have bv':=Int.emod_lt_of_pos v (b:=g.h) (by omega)
 rw [Int.mul_comm] at mu mv
 have eu:u-u / g.w*g.w=u % g.w:=by omega
 have ev:v-v / g.h*g.h=v % g.h:=by omega
 simp only [eu,ev]
 have rb:∀ a b:Int,0<=a->a<g.h->0<=b->b<g.w->0<=a*g.w/\a*g.w+b<g.n/\g.n<=65536/\(g.sn=0\/a*g.w+b<g.sn/\g.sn<=65536):=fun a b a1 a2 b1 b2=>by
  have q0:0<=a*g.w:=Int.mul_nonneg a1 (by omega)
  have q1:(a+1)*g.w<=g.h*g.w:=Int.mul_le_mul_of_nonneg_right (by omega) (by omega)
  have q2:g.w*g.h<=256*256:=Int.mul_le_mul w2 h2 (by omega) (by omega)
  rw [Int.add_mul,Int.mul_comm g.h] at q1
  omega
 have out0:g.rep=false->(u<0\/v<0\/g.w<=u\/g.h<=v)->(⟨0,0,0,0,0,0,0,0⟩:Ink)=SmG.ink ⟨g,u,v⟩/\0=SmG.soft ⟨g,u,v⟩:=fun hr ho=>by
  have e:SmG.out ⟨g,u,v⟩=true:=by unfold SmG.out; rw [hr]; exact decide_eq_true ho
  unfold SmG.ink SmG.soft
  rw [e]
  exact ⟨rfl,rfl⟩
 have sfm:∀ j:Nat,j<g.sn->g.sf j=max 0 (min 255 (g.sf j)):=fun j hj=>by have:=hsf j hj; omega
 have in0:g.rep=false->¬(u<0\/v<0\/g.w<=u\/g.h<=v)->(g.sn=0->g.px (v*g.w+u).toNat=SmG.ink ⟨g,u,v⟩/\255=SmG.soft ⟨g,u,v⟩)/\(g.sn≠0->(v*g.w+u).toNat<g.sn->g.px (v*g.w+u).toNat=SmG.ink ⟨g,u,v⟩/\g.sf (v*g.w+u).toNat=SmG.soft ⟨g,u,v⟩):=fun hr ho=>by
  have e:SmG.out ⟨g,u,v⟩=false:=by unfold SmG.out; rw [hr]; exact decide_eq_false ho
  unfold SmG.ink SmG.soft SmG.at
  rw [e,hr]
  exact ⟨fun hz=>⟨rfl,(if_pos hz).symm⟩,fun hz hl=>⟨rfl,(sfm _ hl).trans (if_neg hz).symm⟩⟩
 have in1:g.rep=true->(g.sn=0->g.px (v % g.h*g.w+u % g.w).toNat=SmG.ink ⟨g,u,v⟩/\255=SmG.soft ⟨g,u,v⟩)/\(g.sn≠0->(v % g.h*g.w+u % g.w).toNat<g.sn->g.px (v % g.h*g.w+u % g.w).toNat=SmG.ink ⟨g,u,v⟩/\g.sf (v % g.h*g.w+u % g.w).toNat=SmG.soft ⟨g,u,v⟩):=fun hr=>by
  have e:SmG.out ⟨g,u,v⟩=false:=by unfold SmG.out; rw [hr]; rfl
  unfold SmG.ink SmG.soft SmG.at
  rw [e,hr]
  exact ⟨fun hz=>⟨rfl,(if_pos hz).symm⟩,fun hz hl=>⟨rfl,(sfm _ hl).trans (if_neg hz).symm⟩⟩
 have all:∀ {f k:Ink}{a b:Int},f=k/\a=b->(((((((f.c0=k.c0/\f.c1=k.c1)/\f.c2=k.c2)/\f.c3=k.c3)/\f.c4=k.c4)/\f.c5=k.c5)/\f.c6=k.c6)/\f.c7=k.c7)/\a=b:=fun h=>by rw [h.1]; exact ⟨⟨⟨⟨⟨⟨⟨⟨rfl,rfl⟩,rfl⟩,rfl⟩,rfl⟩,rfl⟩,rfl⟩,rfl⟩,h.2⟩
 refine ⟨fun hr=>?_,fun hr=>⟨fun c1=>all (out0 hr (by omega)),fun c1=>⟨fun c2=>all (out0 hr (by omega)),fun c2=>⟨fun c3=>all (out0 hr (by omega)),fun c3=>⟨fun c4=>all (out0 hr (by omega)),fun c4=>?_⟩⟩⟩⟩⟩
 ·have r:=rb _ _ bv bv' bu bu'
  exact ⟨by omega,by omega,by omega,by omega,by omega,by omega,by omega,by omega,fun h=>⟨by omega,all ((in1 hr).1 (by omega))⟩,fun h=>⟨by omega,by omega,all ((in1 hr).2 (by omega) (by omega))⟩⟩
 ·have r:=rb v u (by omega) (by omega) (by omega) (by omega)
  exact ⟨by omega,by omega,fun h=>⟨by omega,all ((in0 hr (by omega)).1 (by omega))⟩,fun h=>⟨by omega,by omega,all ((in0 hr (by omega)).2 (by omega) (by omega))⟩⟩
end Go.Proofs.YthappngbapbkfaaGreat.Img
set_option linter.unusedSimpArgs false
set_option linter.unusedVariables false
namespace Go.Proofs.YthappngbapbkfaaGreat.Imh
open Go.RowKit Sx Num Aff Afi Img
set_option maxRecDepth 100000
def spIof:FSpec:=aa5 80 (γ:=ImgG) (fun | [.agg _ g]=>some (imgD g) | _=>none) (fun g=>[imgS g]) (fun _=>True) (fun g=> .agg 18 (lst (imgL g++matL (invM g.m))))
theorem ok_iof:aa2 Tryz.prog spIof:=by
 refine aa1 (specs:=[aQ2]) (aa9 (⟨aW6,trivial⟩)) (eqs:=[]) (fun _ _ h=>(List.not_mem_nil h).elim) Aff.mixed Tryz.func80 rfl (by kernel_rfl) (fun _ _=>by kernel_rfl) (fun g=>A0) (fun g=>Nat.le_of_ble_eq_true (by kernel_rfl)) ?_
 rintro g _
 refine ab5 (B:=let K:=IntKind.i64;let A:=Sx.Ask;True/\True/\True/\True/\((((((((True/\A (K=K)/\A (g.m.a=g.m.a))/\A (K=K)/\A (g.m.b=g.m.b))/\A (K=K)/\A (g.m.c=g.m.c))/\A (K=K)/\A (g.m.d=g.m.d))/\A (K=K)/\A (g.m.e=g.m.e))/\A (K=K)/\A (g.m.f=g.m.f))/\True)/\A True)/\True/\True/\True/\True/\True/\True/\True/\True/\True/\True/\(True/\True)/\(((((((((((((((((True/\A (K=K)/\A (g.w=g.w))/\A (K=K)/\A (g.h=g.h))/\A (g.n=g.n)/\∀ i:Nat,i<g.n->(((((((True/\A (IntKind.u8=IntKind.u8)/\A ((g.px i).c0=(g.px i).c0))/\A (IntKind.u8=IntKind.u8)/\A ((g.px i).c1=(g.px i).c1))/\A (IntKind.u8=IntKind.u8)/\A ((g.px i).c2=(g.px i).c2))/\A (IntKind.u8=IntKind.u8)/\A ((g.px i).c3=(g.px i).c3))/\A (IntKind.u8=IntKind.u8)/\A ((g.px i).c4=(g.px i).c4))/\A (IntKind.u8=IntKind.u8)/\A ((g.px i).c5=(g.px i).c5))/\A (IntKind.u8=IntKind.u8)/\A ((g.px i).c6=(g.px i).c6))/\A (IntKind.u8=IntKind.u8)/\A ((g.px i).c7=(g.px i).c7))/\A (g.sn=g.sn)/\∀ i:Nat,i<g.sn->True/\A (IntKind.u8=IntKind.u8)/\A (g.sf i=g.sf i))/\A (K=K)/\A (g.m.a=g.m.a))/\A (K=K)/\A (g.m.b=g.m.b))/\A (K=K)/\A (g.m.c=g.m.c))/\A (K=K)/\A (g.m.d=g.m.d))/\A (K=K)/\A (g.m.e=g.m.e))/\A (K=K)/\A (g.m.f=g.m.f))/\A (g.smooth=g.smooth))/\A (g.rep=g.rep))/\A (K=K)/\A ((Go.Proofs.YthappngbapbkfaaGreat.Afi.invM g.m).a=(Go.Proofs.YthappngbapbkfaaGreat.Afi.invM g.m).a))/\A (K=K)/\A ((Go.Proofs.YthappngbapbkfaaGreat.Afi.invM g.m).b=(Go.Proofs.YthappngbapbkfaaGreat.Afi.invM g.m).b))/\A (K=K)/\A ((Go.Proofs.YthappngbapbkfaaGreat.Afi.invM g.m).c=(Go.Proofs.YthappngbapbkfaaGreat.Afi.invM g.m).c))/\A (K=K)/\A ((Go.Proofs.YthappngbapbkfaaGreat.Afi.invM g.m).d=(Go.Proofs.YthappngbapbkfaaGreat.Afi.invM g.m).d))/\A (K=K)/\A ((Go.Proofs.YthappngbapbkfaaGreat.Afi.invM g.m).e=(Go.Proofs.YthappngbapbkfaaGreat.Afi.invM g.m).e))/\A (K=K)/\A ((Go.Proofs.YthappngbapbkfaaGreat.Afi.invM g.m).f=(Go.Proofs.YthappngbapbkfaaGreat.Afi.invM g.m).f)) (by kernel_rfl) ?_
 simp only [aa4,aa8,eq_self,true_and,and_true,implies_true,forall_const,decide_eq_true_eq,decide_eq_false_iff_not,ne_eq,Nat.mul_one,Nat.add_zero,Nat.zero_add]
structure InksG where
 n:Nat
 px:Nat->Ink
structure BoxG where
 w:Int
 h:Int
 n:Nat
 px:Nat->Ink
 x:Int
 y:Int
 k:Int
def BoxG.img (b:BoxG):ImgG:=⟨b.w,b.h,b.n,b.px,0,fun _=>0,⟨4096*b.k,0,0,4096*b.k,4096*b.x,4096*b.y⟩,false,false⟩
def BoxG.ok (b:BoxG):Prop:=(((1<=b.k/\b.k<=256)/\bits .and .i64 b.k (b.k-1)=0)/\(-8192<=b.x/\b.x<=8192)/\ -8192<=b.y/\b.y<=8192)/\b.n<=4294967296/\b.img.chk=0
end Go.Proofs.YthappngbapbkfaaGreat.Imh
set_option linter.unusedSimpArgs false
set_option linter.unusedVariables false
namespace Go.Proofs.YthappngbapbkfaaGreat.Blend
open Go.RowKit Num
def aK8 (b s:Int):Int:=if s<=127 then ab2 b (2*s) else 255-ab2 (255-b) (2*(255-s))
def aC7 (b s:Int):Int:=if b=0 then 0 else if 255-s<=b then 255 else nr (255*b) (255-s)
def aZ6 (b s:Int):Int:=if b=255 then 255 else if s<=255-b then 0 else 255-nr (255*(255-b)) s
def af7 (k:Nat) (b s:Int):Int:=
 match k with
 | 0=>s
 | 1=>ab2 b s
 | 2=>255-ab2 (255-b) (255-s)
 | 3=>aK8 s b
 | 4=>if b<=s then b else s
 | 5=>if b<=s then s else b
 | 6=>aC7 b s
 | 7=>aZ6 b s
 | 8=>aK8 b s
 | 9=>nr ((255-2*s)*b*b+510*s*b) 65025
 | 10=>if b<=s then s-b else b-s
 | _=>b+s-nr (2*b*s) 255
def aa6 (k:Nat):Nat:=
 match k with
 | 0=>131
 | 1=>132
 | 2=>133
 | 3=>134
 | 4=>136
 | 5=>137
 | 6=>138
 | 7=>139
 | 8=>135
 | 9=>140
 | 10=>141
 | _=>142
def Does (F:Nat) (f:Int->Int->Int):Prop:=∀ (b s:Int) (w:World),0<=b->b<=255->0<=s->s<=255->
 Calls Tryz.prog F #[.int .i64 b,.int .i64 s] w fun e w'=>e = .returned (.int .i64 (f b s))/\w=w'
theorem aR2 (a b:Int) (w:World) (h1:0<=a) (h2:a<=255) (h3:0<=b) (h4:b<=255) :
  Calls Tryz.prog 132 #[.int .i64 a,.int .i64 b] w fun e w'=>e = .returned (.int .i64 (ab2 a b))/\w=w':=by
 obtain ⟨r1,r2⟩:=ad7 h1 h2 h3 h4
 go_enter Tryz.func132,Tryz.ntmps132
 go_wp2_with fail
 refine (mul255_any _ _ _ h1 h2 h3 h4).mono ?_
 rintro e w' ⟨rfl,rfl⟩
 go_wp2
 go_ret
 exact ⟨rfl,rfl⟩
theorem hard_any (b s:Int) (w:World) (h1:0<=b) (h2:b<=255) (h3:0<=s) (h4:s<=255) :
  Calls Tryz.prog 135 #[.int .i64 b,.int .i64 s] w fun e w'=>e = .returned (.int .i64 (aK8 b s))/\w=w':=by
 by_cases h:s<=127
 ·have H:Hid (ab2 b (2*s)=aK8 b s):=by unfold aK8; rw [if_pos h]; exact rfl
  go_enter Tryz.func135,Tryz.ntmps135
  go_wp2_with fail
  refine (aR2 _ _ _ h1 h2 (by omega) (by omega)).mono ?_
  rintro e w' ⟨rfl,rfl⟩
  go_wp2
  go_ret
  exact ⟨ag5 H.out,rfl⟩
 ·have H:Hid (255-ab2 (255-b) (2*(255-s))=aK8 b s):=by unfold aK8; rw [if_neg h]; exact rfl
  obtain ⟨r1,r2⟩:=ad7 (a:=255-b) (b:=2*(255-s)) (by omega) (by omega) (by omega) (by omega)
  go_enter Tryz.func135,Tryz.ntmps135
  go_wp2_with fail
  refine (aR2 _ _ _ (by omega) (by omega) (by omega) (by omega)).mono ?_
  rintro e w' ⟨rfl,rfl⟩
  go_wp2
  go_ret
  exact ⟨ag5 H.out,rfl⟩
theorem does0:Does (aa6 0) (af7 0):=by
 intro b s w h1 h2 h3 h4
 unfold aa6 af7
 go_enter Tryz.func131,Tryz.ntmps131
 go_wp2
 go_ret
 exact ⟨rfl,rfl⟩
theorem does1:Does (aa6 1) (af7 1):=fun b s w h1 h2 h3 h4=>aR2 b s w h1 h2 h3 h4
theorem does2:Does (aa6 2) (af7 2):=by
 intro b s w h1 h2 h3 h4
 unfold aa6 af7
 obtain ⟨r1,r2⟩:=ad7 (a:=255-b) (b:=255-s) (by omega) (by omega) (by omega) (by omega)
 go_enter Tryz.func133,Tryz.ntmps133
 go_wp2_with fail
 refine (aR2 _ _ _ (by omega) (by omega) (by omega) (by omega)).mono ?_
 rintro e w' ⟨rfl,rfl⟩
 go_wp2
 go_ret
 exact ⟨rfl,rfl⟩
theorem does3:Does (aa6 3) (af7 3):=by
 intro b s w h1 h2 h3 h4
 unfold aa6 af7
 go_enter Tryz.func134,Tryz.ntmps134
 go_wp2_with fail
 refine (hard_any _ _ _ h3 h4 h1 h2).mono ?_
 rintro e w' ⟨rfl,rfl⟩
 go_wp2
 go_ret
 exact ⟨rfl,rfl⟩
theorem does4:Does (aa6 4) (af7 4):=by
 intro b s w h1 h2 h3 h4
 unfold aa6 af7
 go_enter Tryz.func136,Tryz.ntmps136
 go_wp2
 all_goals (go_ret; exact ⟨rfl,rfl⟩)
theorem does5:Does (aa6 5) (af7 5):=by
 intro b s w h1 h2 h3 h4
 unfold aa6 af7
 go_enter Tryz.func137,Tryz.ntmps137
 go_wp2
 all_goals (go_ret; exact ⟨ag5 (by first | rfl | omega),rfl⟩)
theorem does6:Does (aa6 6) (af7 6):=by
 intro b s w h1 h2 h3 h4
 unfold aa6
 by_cases g1:b=0
 ·have H:Hid (0=af7 6 b s):=by show _=aC7 b s; unfold aC7; rw [if_pos g1]
  have g2:(b==0)=true:=by simp [g1]
  clear g1
  go_enter Tryz.func138,Tryz.ntmps138
  go_wp2
  go_ret
  exact ⟨ag5 H.out,rfl⟩
 ·have g2:(b==0)=false:=by simp [g1]
  by_cases g3:255-s<=b
  ·have H:Hid (255=af7 6 b s):=by show _=aC7 b s; unfold aC7; rw [if_neg g1,if_pos g3]
   go_enter Tryz.func138,Tryz.ntmps138
   go_wp2
   go_ret
   exact ⟨ag5 H.out,rfl⟩
  ·have H:Hid (nr (255*b) (255-s)=af7 6 b s):=by show _=aC7 b s; unfold aC7; rw [if_neg g1,if_neg g3]
   go_enter Tryz.func138,Tryz.ntmps138
   go_wp2_with fail
   refine (near _ _ _ (by omega) (by omega) (by omega) (by omega)).mono ?_
   rintro e w' ⟨rfl,rfl⟩
   go_wp2
   go_ret
   exact ⟨ag5 H.out,rfl⟩
theorem ai6 {a b:Int}(hb:1<=b) (h0:0<=a) (h1:a<=255*b):0<=nr a b/\nr a b<=255:=by
 have hs:=aG9 a b hb
 generalize nr a b=m at *
 constructor
 ·refine Int.not_lt.1 fun hc=>?_
  have:m*b<=(-1)*b:=Int.mul_le_mul_of_nonneg_right (by omega) (by omega)
  omega
 ·refine Int.not_lt.1 fun hc=>?_
  have:256*b<=m*b:=Int.mul_le_mul_of_nonneg_right (by omega) (by omega)
  omega
theorem does7:Does (aa6 7) (af7 7):=by
 intro b s w h1 h2 h3 h4
 unfold aa6
 by_cases g1:b=255
 ·have H:Hid (255=af7 7 b s):=by show _=aZ6 b s; unfold aZ6; rw [if_pos g1]
  have g2:(b==255)=true:=by simp [g1]
  clear g1
  go_enter Tryz.func139,Tryz.ntmps139
  go_wp2
  go_ret
  exact ⟨ag5 H.out,rfl⟩
 ·have g2:(b==255)=false:=by simp [g1]
  by_cases g3:s<=255-b
  ·have H:Hid (0=af7 7 b s):=by show _=aZ6 b s; unfold aZ6; rw [if_neg g1,if_pos g3]
   go_enter Tryz.func139,Tryz.ntmps139
   go_wp2
   go_ret
   exact ⟨ag5 H.out,rfl⟩
  ·have H:Hid (255-nr (255*(255-b)) s=af7 7 b s):=by show _=aZ6 b s; unfold aZ6; rw [if_neg g1,if_neg g3]
   obtain ⟨r1,r2⟩:=ai6 (a:=255*(255-b)) (b:=s) (by omega) (by omega) (by omega)
   go_enter Tryz.func139,Tryz.ntmps139
   go_wp2_with fail
   refine (near _ _ _ (by omega) (by omega) (by omega) (by omega)).mono ?_
   rintro e w' ⟨rfl,rfl⟩
   go_wp2
   go_ret
   exact ⟨ag5 H.out,rfl⟩
theorem does8:Does (aa6 8) (af7 8):=fun b s w h1 h2 h3 h4=>hard_any b s w h1 h2 h3 h4
theorem aG0 {b s:Int}(h1:0<=b) (h2:b<=255) (h3:0<=s) (h4:s<=255) :
  -65025<=(255-2*s)*b/\(255-2*s)*b<=65025/\0<=s*b/\s*b<=65025/\ -16581375<=(255-2*s)*b*b/\(255-2*s)*b*b<=16581375/\
  0<=(255-2*s)*b*b+510*s*b/\(255-2*s)*b*b+510*s*b<=255*65025:=by
 obtain ⟨p1,p2⟩:=aG6 h3 h4 h1 h2
 obtain ⟨p3,p4⟩:=aG6 h1 h2 h1 h2
 have e1:(255-2*s)*b=255*b-2*(s*b):=by grind
 have e2:(255-2*s)*b*b=255*(b*b)-2*(s*(b*b)):=by grind
 have e3:510*s*b=510*(s*b):=by grind
 obtain ⟨p5,p6⟩:=aG6 h3 h4 p3 p4
 have e4:s*(b*b)=b*(s*b):=by grind
 have p7:b*(s*b)<=255*(s*b):=Int.mul_le_mul_of_nonneg_right h2 p1
 have p9:s*b<=255*b:=Int.mul_le_mul_of_nonneg_right h4 h1
 have p10:s*(b*b)<=255*(b*b):=Int.mul_le_mul_of_nonneg_right h4 p3
 have e5:255*65025-(255*(b*b)-2*(s*(b*b))+510*(s*b))=(255-b)*(255*(255+b)-2*(s*b)):=by grind
 have p8:0<=(255-b)*(255*(255+b)-2*(s*b)):=by
  refine Int.mul_nonneg (by omega) ?_
  have:s*b<=255*b:=Int.mul_le_mul_of_nonneg_right h4 h1
  omega
 omega
theorem does9:Does (aa6 9) (af7 9):=by
 intro b s w h1 h2 h3 h4
 unfold aa6 af7
 obtain ⟨k1,k2,k3,k4,k5,k6,k7,k8⟩:=aG0 h1 h2 h3 h4
 have e3:510*s*b=510*(s*b):=by grind
 have k9:0<=510*s*b/\510*s*b<=33162750:=by omega
 obtain ⟨k9,k10⟩:=k9
 clear e3
 go_enter Tryz.func140,Tryz.ntmps140
 go_wp2_with fail
 refine (near _ 65025 _ (by omega) (by omega) (by omega) (by omega)).mono ?_
 rintro e w' ⟨rfl,rfl⟩
 go_wp2
 go_ret
 exact ⟨rfl,rfl⟩
theorem does10:Does (aa6 10) (af7 10):=by
 intro b s w h1 h2 h3 h4
 unfold aa6 af7
 go_enter Tryz.func141,Tryz.ntmps141
 go_wp2
 all_goals (go_ret; exact ⟨ag5 (by first | rfl | (split<;>omega) | omega),rfl⟩)
theorem does11:Does (aa6 11) (af7 11):=by
 intro b s w h1 h2 h3 h4
 unfold aa6 af7
 obtain ⟨p1,p2⟩:=aG6 h1 h2 h3 h4
 have e1:2*b*s=2*(b*s):=by grind
 have k:0<=2*b*s/\2*b*s<=130050:=by omega
 obtain ⟨k1,k2⟩:=k
 have r:=aG9 (2*b*s) 255 (by omega)
 have r3:0<=nr (2*b*s) 255/\nr (2*b*s) 255<=510:=by omega
 obtain ⟨r1,r2⟩:=r3
 clear e1 r
 go_enter Tryz.func142,Tryz.ntmps142
 go_wp2_with fail
 refine (near _ 255 _ (by omega) (by omega) (by omega) (by omega)).mono ?_
 rintro e w' ⟨rfl,rfl⟩
 go_wp2
 go_ret
 exact ⟨rfl,rfl⟩
theorem does:∀ k:Nat,k<12->Does (aa6 k) (af7 k)
 | 0,_=>does0
 | 1,_=>does1
 | 2,_=>does2
 | 3,_=>does3
 | 4,_=>does4
 | 5,_=>does5
 | 6,_=>does6
 | 7,_=>does7
 | 8,_=>does8
 | 9,_=>does9
 | 10,_=>does10
 | 11,_=>does11
 | n+12,h=>absurd h (by omega)
theorem aN8 {b s:Int}(h1:0<=b) (h2:b<=255) (h3:0<=s) (h4:s<=255):0<=aK8 b s/\aK8 b s<=255:=by
 unfold aK8
 split
 ·exact ad7 h1 h2 (by omega) (by omega)
 ·have:=ad7 (a:=255-b) (b:=2*(255-s)) (by omega) (by omega) (by omega) (by omega)
  omega
theorem aH3 {k:Nat}{b s:Int}(hk:k<12) (h1:0<=b) (h2:b<=255) (h3:0<=s) (h4:s<=255):0<=af7 k b s/\af7 k b s<=255:=by
 match k,hk with
 | 0,_=>exact ⟨h3,h4⟩
 | 1,_=>exact ad7 h1 h2 h3 h4
 | 2,_=>
  have:=ad7 (a:=255-b) (b:=255-s) (by omega) (by omega) (by omega) (by omega)
  simp only [af7]; omega
 | 3,_=>exact aN8 h3 h4 h1 h2
 | 4,_=>simp only [af7]; split<;>omega
 | 5,_=>simp only [af7]; split<;>omega
 | 6,_=>
  simp only [af7,aC7]
  split
  ·omega
  ·split
   ·omega
   ·exact ai6 (by omega) (by omega) (by omega)
 | 7,_=>
  simp only [af7,aZ6]
  split
  ·omega
  ·split
   ·omega
   ·have:=ai6 (a:=255*(255-b)) (b:=s) (by omega) (by omega) (by omega)
    omega
 | 8,_=>exact aN8 h1 h2 h3 h4
 | 9,_=>
  obtain ⟨_,_,_,_,_,_,k7,k8⟩:=aG0 h1 h2 h3 h4
  exact ai6 (by omega) k7 k8
 | 10,_=>simp only [af7]; split<;>omega
 | 11,_=>
  have e1:2*b*s=2*(b*s):=by grind
  obtain ⟨p1,p2⟩:=aG6 h1 h2 h3 h4
  have r:=aG9 (2*b*s) 255 (by omega)
  have p3:b*s<=255*s:=Int.mul_le_mul_of_nonneg_right h2 h3
  have p4:b*s<=b*255:=Int.mul_le_mul_of_nonneg_left h4 h1
  have e5:(255-b)*(255-s)=65025-255*b-255*s+b*s:=by grind
  have p5:0<=(255-b)*(255-s):=Int.mul_nonneg (by omega) (by omega)
  simp only [af7]
  omega
theorem modes_call:∀ (k:Nat),k<12->∀ (args:Array Value) (w:World),Sem.run Tryz.prog (callFunc (aa6 k) args) w = .ok (.enter (aa6 k) args) w
 | 0,_,_,_=>by kernel_rfl
 | 1,_,_,_=>by kernel_rfl
 | 2,_,_,_=>by kernel_rfl
 | 3,_,_,_=>by kernel_rfl
 | 4,_,_,_=>by kernel_rfl
 | 5,_,_,_=>by kernel_rfl
 | 6,_,_,_=>by kernel_rfl
 | 7,_,_,_=>by kernel_rfl
 | 8,_,_,_=>by kernel_rfl
 | 9,_,_,_=>by kernel_rfl
 | 10,_,_,_=>by kernel_rfl
 | 11,_,_,_=>by kernel_rfl
 | n+12,h,_,_=>absurd h (by omega)
theorem a94 (k:Nat) (b s:Int) (p:Addr) (w:World) (hk:k<12) (h1:0<=b) (h2:b<=255) (h3:0<=s) (h4:s<=255)
  (hc:w.cell? p=some (.func (.func (aa6 k)) #[] #[])) :
  Calls Tryz.prog 112 #[.int .u8 b,.int .u8 s,.pointer (some p)] w fun e w'=>e = .returned (.int .u8 (af7 k b s))/\w=w':=by
 have hd:=Lib.hid (does k hk)
 have hcf:=modes_call k hk
 obtain ⟨r1,r2⟩:=aH3 hk h1 h2 h3 h4
 generalize af7 k=f at *
 generalize aa6 k=F at *
 go_enter Tryz.func112,Tryz.ntmps112
 go_wp2_with fail
 refine (hd.out _ _ _ h1 h2 h3 h4).mono ?_
 rintro e w1 ⟨rfl,rfl⟩
 go_wp2
 go_ret
 exact ⟨rfl,rfl⟩
end Go.Proofs.YthappngbapbkfaaGreat.Blend
set_option linter.unusedSimpArgs false
set_option linter.unusedVariables false
namespace Go.Proofs.YthappngbapbkfaaGreat.Ble
open Go.RowKit Sx Num Aff Blend
set_option maxRecDepth 100000
theorem u8w {x:Int}(h1:0<=x) (h2:x<=255):IntKind.u8.wrap x=x:=by
 rw [IntKind.wrap_u8]; omega
def fnS (F:Nat):SV:= .fn F 0 (lst [])
def mode1S (F:Nat):SV:= .fn 112 1 (lst [.ref 1 (lst [fnS F])])
def inks1S (F:Nat):SV:= .fn 86 1 (lst [.ref 1 (lst [mode1S F])])
def spModes:FSpec:=aa5 111 (γ:=Unit) (fun _=>some ()) (fun _=>[]) (fun _=>True) (fun _=> .agg 12 (lst [fnS (aa6 0),fnS (aa6 1),fnS (aa6 2),fnS (aa6 3),fnS (aa6 4),fnS (aa6 5),fnS (aa6 6),fnS (aa6 7),fnS (aa6 8),fnS (aa6 9),fnS (aa6 10),fnS (aa6 11)]))
theorem ok_modes:aa2 Tryz.prog spModes:=by
 refine aa1 (specs:=[]) (aa9 trivial) (eqs:=[]) (fun _ _ h=>(List.not_mem_nil h).elim) mixed Tryz.func111 rfl (by kernel_rfl) (fun _ _=>by kernel_rfl) (fun _=>A0) (fun g=>Nat.le_of_ble_eq_true (by kernel_rfl)) ?_
 intro _ _
 refine ab5 (B:=let A:=Sx.Ask;True/\True/\True/\(True/\True)/\(((((((((((True/\A ((131:Nat)=Blend.aa6 (0:Nat))/\True)/\A ((132:Nat)=Blend.aa6 (1:Nat))/\True)/\A ((133:Nat)=Blend.aa6 (2:Nat))/\True)/\A ((134:Nat)=Blend.aa6 (3:Nat))/\True)/\A ((136:Nat)=Blend.aa6 (4:Nat))/\True)/\A ((137:Nat)=Blend.aa6 (5:Nat))/\True)/\A ((138:Nat)=Blend.aa6 (6:Nat))/\True)/\A ((139:Nat)=Blend.aa6 (7:Nat))/\True)/\A ((135:Nat)=Blend.aa6 (8:Nat))/\True)/\A ((140:Nat)=Blend.aa6 (9:Nat))/\True)/\A ((141:Nat)=Blend.aa6 (10:Nat))/\True)/\A ((142:Nat)=Blend.aa6 (11:Nat))/\True) (by kernel_rfl) ?_
 simp [aa4,aa8,aa6]
def spMode:FSpec:=aa5 85 (γ:=Int) (fun | [.int _ k]=>some k | _=>none) (fun k=>[.int .i64 k]) (fun k=>0<=k/\k<=11) (fun k=> .tup 2 (lst [mode1S (aa6 k.toNat),.int .i64 0]))
theorem ok_mode:aa2 Tryz.prog spMode:=by
 refine aa1 (specs:=[spModes]) (aa9 (⟨ok_modes,trivial⟩)) (eqs:=[]) (fun _ _ h=>(List.not_mem_nil h).elim) mixed Tryz.func85 rfl (by kernel_rfl) (fun _ _=>by kernel_rfl) (fun _=>A0) (fun g=>Nat.le_of_ble_eq_true (by kernel_rfl)) ?_
 rintro k ⟨h1,h2⟩
 have h:k=0\/k=1\/k=2\/k=3\/k=4\/k=5\/k=6\/k=7\/k=8\/k=9\/k=10\/k=11:=by omega
 rcases h with rfl | rfl | rfl | rfl | rfl | rfl | rfl | rfl | rfl | rfl | rfl | rfl
 ·clear h1 h2
  refine ab5 (B:=let A:=Sx.Ask;True/\True/\True/\True/\True/\True/\True/\True/\(True/\A True)/\True/\A ((0:Int)<=(0:Int)/\(0:Int)<(↑(12:Nat):Int))/\True/\True/\True/\True/\True/\True/\(True/\A ((112:Nat)=(112:Go.FuncId))/\True/\True/\A (Blend.aa6 (0:Nat)=Blend.aa6 (Int.toNat (0:Int)))/\True)/\A (IntKind.i64=IntKind.i64)/\A ((0:Int)=(0:Int))) (by kernel_rfl) ?_
  simp [aa4,aa8,aa6]
 ·clear h1 h2
  refine ab5 (B:=let A:=Sx.Ask;True/\True/\True/\True/\True/\True/\True/\True/\(True/\A True)/\True/\A ((0:Int)<=(1:Int)/\(1:Int)<(↑(12:Nat):Int))/\True/\True/\True/\True/\True/\True/\(True/\A ((112:Nat)=(112:Go.FuncId))/\True/\True/\A (Blend.aa6 (1:Nat)=Blend.aa6 (Int.toNat (1:Int)))/\True)/\A (IntKind.i64=IntKind.i64)/\A ((0:Int)=(0:Int))) (by kernel_rfl) ?_
  simp [aa4,aa8,aa6]
 ·clear h1 h2
  refine ab5 (B:=let A:=Sx.Ask;True/\True/\True/\True/\True/\True/\True/\True/\(True/\A True)/\True/\A ((0:Int)<=(2:Int)/\(2:Int)<(↑(12:Nat):Int))/\True/\True/\True/\True/\True/\True/\(True/\A ((112:Nat)=(112:Go.FuncId))/\True/\True/\A (Blend.aa6 (2:Nat)=Blend.aa6 (Int.toNat (2:Int)))/\True)/\A (IntKind.i64=IntKind.i64)/\A ((0:Int)=(0:Int))) (by kernel_rfl) ?_
  simp [aa4,aa8,aa6]
 ·clear h1 h2
  refine ab5 (B:=let A:=Sx.Ask;True/\True/\True/\True/\True/\True/\True/\True/\(True/\A True)/\True/\A ((0:Int)<=(3:Int)/\(3:Int)<(↑(12:Nat):Int))/\True/\True/\True/\True/\True/\True/\(True/\A ((112:Nat)=(112:Go.FuncId))/\True/\True/\A (Blend.aa6 (3:Nat)=Blend.aa6 (Int.toNat (3:Int)))/\True)/\A (IntKind.i64=IntKind.i64)/\A ((0:Int)=(0:Int))) (by kernel_rfl) ?_
  simp [aa4,aa8,aa6]
 ·clear h1 h2
  refine ab5 (B:=let A:=Sx.Ask;True/\True/\True/\True/\True/\True/\True/\True/\(True/\A True)/\True/\A ((0:Int)<=(4:Int)/\(4:Int)<(↑(12:Nat):Int))/\True/\True/\True/\True/\True/\True/\(True/\A ((112:Nat)=(112:Go.FuncId))/\True/\True/\A (Blend.aa6 (4:Nat)=Blend.aa6 (Int.toNat (4:Int)))/\True)/\A (IntKind.i64=IntKind.i64)/\A ((0:Int)=(0:Int))) (by kernel_rfl) ?_
  simp [aa4,aa8,aa6]
 ·clear h1 h2
  refine ab5 (B:=let A:=Sx.Ask;True/\True/\True/\True/\True/\True/\True/\True/\(True/\A True)/\True/\A ((0:Int)<=(5:Int)/\(5:Int)<(↑(12:Nat):Int))/\True/\True/\True/\True/\True/\True/\(True/\A ((112:Nat)=(112:Go.FuncId))/\True/\True/\A (Blend.aa6 (5:Nat)=Blend.aa6 (Int.toNat (5:Int)))/\True)/\A (IntKind.i64=IntKind.i64)/\A ((0:Int)=(0:Int))) (by kernel_rfl) ?_
  simp [aa4,aa8,aa6]
 ·clear h1 h2
  refine ab5 (B:=let A:=Sx.Ask;True/\True/\True/\True/\True/\True/\True/\True/\(True/\A True)/\True/\A ((0:Int)<=(6:Int)/\(6:Int)<(↑(12:Nat):Int))/\True/\True/\True/\True/\True/\True/\(True/\A ((112:Nat)=(112:Go.FuncId))/\True/\True/\A (Blend.aa6 (6:Nat)=Blend.aa6 (Int.toNat (6:Int)))/\True)/\A (IntKind.i64=IntKind.i64)/\A ((0:Int)=(0:Int))) (by kernel_rfl) ?_
  simp [aa4,aa8,aa6]
 ·clear h1 h2
  refine ab5 (B:=let A:=Sx.Ask;True/\True/\True/\True/\True/\True/\True/\True/\(True/\A True)/\True/\A ((0:Int)<=(7:Int)/\(7:Int)<(↑(12:Nat):Int))/\True/\True/\True/\True/\True/\True/\(True/\A ((112:Nat)=(112:Go.FuncId))/\True/\True/\A (Blend.aa6 (7:Nat)=Blend.aa6 (Int.toNat (7:Int)))/\True)/\A (IntKind.i64=IntKind.i64)/\A ((0:Int)=(0:Int))) (by kernel_rfl) ?_
  simp [aa4,aa8,aa6]
 ·clear h1 h2
  refine ab5 (B:=let A:=Sx.Ask;True/\True/\True/\True/\True/\True/\True/\True/\(True/\A True)/\True/\A ((0:Int)<=(8:Int)/\(8:Int)<(↑(12:Nat):Int))/\True/\True/\True/\True/\True/\True/\(True/\A ((112:Nat)=(112:Go.FuncId))/\True/\True/\A (Blend.aa6 (8:Nat)=Blend.aa6 (Int.toNat (8:Int)))/\True)/\A (IntKind.i64=IntKind.i64)/\A ((0:Int)=(0:Int))) (by kernel_rfl) ?_
  simp [aa4,aa8,aa6]
 ·clear h1 h2
  refine ab5 (B:=let A:=Sx.Ask;True/\True/\True/\True/\True/\True/\True/\True/\(True/\A True)/\True/\A ((0:Int)<=(9:Int)/\(9:Int)<(↑(12:Nat):Int))/\True/\True/\True/\True/\True/\True/\(True/\A ((112:Nat)=(112:Go.FuncId))/\True/\True/\A (Blend.aa6 (9:Nat)=Blend.aa6 (Int.toNat (9:Int)))/\True)/\A (IntKind.i64=IntKind.i64)/\A ((0:Int)=(0:Int))) (by kernel_rfl) ?_
  simp [aa4,aa8,aa6]
 ·clear h1 h2
  refine ab5 (B:=let A:=Sx.Ask;True/\True/\True/\True/\True/\True/\True/\True/\(True/\A True)/\True/\A ((0:Int)<=(10:Int)/\(10:Int)<(↑(12:Nat):Int))/\True/\True/\True/\True/\True/\True/\(True/\A ((112:Nat)=(112:Go.FuncId))/\True/\True/\A (Blend.aa6 (10:Nat)=Blend.aa6 (Int.toNat (10:Int)))/\True)/\A (IntKind.i64=IntKind.i64)/\A ((0:Int)=(0:Int))) (by kernel_rfl) ?_
  simp [aa4,aa8,aa6]
 ·clear h1 h2
  refine ab5 (B:=let A:=Sx.Ask;True/\True/\True/\True/\True/\True/\True/\True/\(True/\A True)/\True/\A ((0:Int)<=(11:Int)/\(11:Int)<(↑(12:Nat):Int))/\True/\True/\True/\True/\True/\True/\(True/\A ((112:Nat)=(112:Go.FuncId))/\True/\True/\A (Blend.aa6 (11:Nat)=Blend.aa6 (Int.toNat (11:Int)))/\True)/\A (IntKind.i64=IntKind.i64)/\A ((0:Int)=(0:Int))) (by kernel_rfl) ?_
  simp [aa4,aa8,aa6]
def spInks:FSpec:=aa5 60 (γ:=Int) (fun | [.int _ k]=>some k | _=>none) (fun k=>[.int .i64 k]) (fun k=>0<=k/\k<=11) (fun k=>inks1S (aa6 k.toNat))
theorem ok_inks:aa2 Tryz.prog spInks:=by
 refine aa1 (specs:=[spMode]) (aa9 (⟨ok_mode,trivial⟩)) (eqs:=[]) (fun _ _ h=>(List.not_mem_nil h).elim) mixed Tryz.func60 rfl (by kernel_rfl) (fun _ _=>by kernel_rfl) (fun _=>A0) (fun g=>Nat.le_of_ble_eq_true (by kernel_rfl)) ?_
 rintro k ⟨h1,h2⟩
 refine ab5 (B:=let A:=Sx.Ask;True/\True/\(((A (IntKind.i64=IntKind.i64)/\A (k=k))/\True)/\A ((0:Int)<=k/\k<=(11:Int)))/\True/\True/\True/\True/\True/\True/\True/\True/\True/\True/\True/\A ((86:Nat)=(86:Go.FuncId))/\True/\True/\A ((112:Go.FuncId)=(112:Go.FuncId))/\True/\True/\A (Blend.aa6 k.toNat=Blend.aa6 k.toNat)/\True) (by kernel_rfl) ?_
 simp [aa4,aa8,h1,h2]
def kOf (F:Nat):Nat:=((List.range 12).find? fun k=>aa6 k==F).getD 0
theorem aH7:∀ k,k<12->kOf (aa6 k)=k:=by decide
def fnD:SV->Nat
 | .fn F _ _=>F
 | _=>0
def caps:SV->Nat->SV
 | .fn _ _ g=>g
 | .ref _ g=>g
 | _=>fun _=> .any
def aN6 (F:Nat):Prop:=∃ k,k<12/\F=aa6 k
def al0 (F:Nat) (b s:Int):Int:=af7 (kOf F) b s
theorem aC1 {F:Nat}(h:aN6 F) {b s:Int}(h1:0<=b) (h2:b<=255) (h3:0<=s) (h4:s<=255):0<=al0 F b s/\al0 F b s<=255:=by
 obtain ⟨k,hk,rfl⟩:=h
 unfold al0
 rw [aH7 k hk]
 exact aH3 hk h1 h2 h3 h4
def spMode1:FSpec:=aa5 112 (γ:=Int×Int×Nat) (fun | [.int _ b,.int _ s,c]=>some (b,s,fnD (caps c 0)) | _=>none) (fun g=>[.int .u8 g.1,.int .u8 g.2.1,.ref 1 (lst [fnS g.2.2])])
 (fun g=>((0<=g.1/\g.1<=255)/\0<=g.2.1/\g.2.1<=255)/\aN6 g.2.2) (fun g=> .int .u8 (al0 g.2.2 g.1 g.2.1))
theorem ok_mode1:aa2 Tryz.prog spMode1:=by
 refine aF6 (fun _ _=>by kernel_rfl) ?_
 rintro ⟨b,s,F⟩ ⟨⟨⟨h1,h2⟩,h3,h4⟩,k,hk,hF⟩ vals w X hsz hr hX
 simp only at h1 h2 h3 h4 hF
 subst hF
 have r0:=hr 0 (by simp)
 have r1:=hr 1 (by simp)
 have r2:=hr 2 (by simp)
 simp only [List.getD_cons_zero,List.getD_cons_succ] at r0 r1 r2
 generalize e0:vals.getD 0 undef=v0 at r0
 generalize e1:vals.getD 1 undef=v1 at r1
 generalize e2:vals.getD 2 undef=v2 at r2
 cases r0
 cases r1
 cases r2
 rename_i bb o c T fr hb hnX hc ho hrr
 have hvals:vals = #[.int .u8 b,.int .u8 s,.pointer (some ⟨bb,o,none⟩)]:=by
  obtain ⟨l⟩:=vals
  match l,hsz with
  | [x,y,z],_=>simp at e0 e1 e2; rw [e0,e1,e2]
 have am9:w.cell? ⟨bb,o,none⟩=some (.func (.func (aa6 k)) #[] #[]):=by
  rw [au0 hb (by omega)]
  have:=hrr 0 (by omega)
  simp only [Nat.add_zero] at this
  generalize c.getD o undef=x at this
  cases this
  rename_i vs hs _
  simp [Array.size_eq_zero_iff.1 hs]
 rw [hvals]
 refine (a94 k b s ⟨bb,o,none⟩ w hk h1 h2 h3 h4 am9).mono ?_
 rintro e w' ⟨rfl,rfl⟩
 exact ⟨_,rfl,by simp only [al0,aH7 k hk]; exact .int,Below.refl _ _⟩
def spInks1:FSpec:=aa5 86 (γ:=Int×Int×Nat) (fun | [.int _ b,.int _ s,c]=>some (b,s,fnD (caps (caps (caps c 0) 0) 0)) | _=>none) (fun g=>[.int .u8 g.1,.int .u8 g.2.1,.ref 1 (lst [mode1S g.2.2])])
 (fun g=>((0<=g.1/\g.1<=255)/\0<=g.2.1/\g.2.1<=255)/\aN6 g.2.2) (fun g=> .int .u8 (255-al0 g.2.2 (255-g.1) (255-g.2.1)))
theorem ok_inks1:aa2 Tryz.prog spInks1:=by
 refine aa1 (specs:=[spMode1]) (aa9 (⟨ok_mode1,trivial⟩)) (eqs:=[]) (fun _ _ h=>(List.not_mem_nil h).elim) mixed Tryz.func86 rfl (by kernel_rfl) (fun _ _=>by kernel_rfl) (fun _=>A0) (fun g=>Nat.le_of_ble_eq_true (by kernel_rfl)) ?_
 rintro ⟨b,s,F⟩ ⟨⟨⟨h1,h2⟩,h3,h4⟩,hF⟩
 simp only at h1 h2 h3 h4 hF
 have r:=aC1 hF (b:=255-b) (s:=255-s) (by omega) (by omega) (by omega) (by omega)
 refine ab5 (B:=let A:=Sx.Ask;let z1:=(IntKind.u8=IntKind.u8);let z0:=(255:Int);True/\True/\True/\A True/\True/\A True/\(((A z1/\A (IntKind.u8.wrap (z0-b)=IntKind.u8.wrap (z0-b)))/\(A z1/\A (IntKind.u8.wrap (z0-s)=IntKind.u8.wrap (z0-s)))/\(True/\A (F=F)/\True)/\True)/\A ((((0:Int)<=IntKind.u8.wrap (z0-b)/\IntKind.u8.wrap (z0-b)<=z0)/\(0:Int)<=IntKind.u8.wrap (z0-s)/\IntKind.u8.wrap (z0-s)<=z0)/\aN6 F))/\A True/\True/\True/\A z1/\A (IntKind.u8.wrap (z0-al0 F (IntKind.u8.wrap (z0-b)) (IntKind.u8.wrap (z0-s)))=z0-al0 F (z0-b) (z0-s))) (by kernel_rfl) ?_
 simp only [u8w (x:=255-b) (by omega) (by omega),u8w (x:=255-s) (by omega) (by omega),u8w (x:=255-al0 F (255-b) (255-s)) (by omega) (by omega)]
 simp [aa4,aa8,hF]
 omega
end Go.Proofs.YthappngbapbkfaaGreat.Ble
set_option linter.unusedSimpArgs false
set_option linter.unusedVariables false
namespace Go.Proofs.YthappngbapbkfaaGreat.Con
open Go.RowKit Sx Num Aff
set_option maxRecDepth 100000
def aI (x:Int):Int:=if x<0 then -x else x
structure Pt where
 x:Int
 y:Int
def ptL (p:Pt):List SV:=[.int .i64 p.x,.int .i64 p.y]
structure NrG where
 a:Pt
 m:Pt
 b:Pt
def Pt.in (p:Pt) (n:Int):Prop:=(-n<=p.x/\p.x<=n)/\ -n<=p.y/\p.y<=n
def nearP (g:NrG):Prop:=((min g.a.x g.b.x-1<=g.m.x/\g.m.x<=max g.a.x g.b.x+1)/\min g.a.y g.b.y-1<=g.m.y/\g.m.y<=max g.a.y g.b.y+1)/\
 aI ((g.b.x-g.a.x)*(g.m.y-g.a.y)-(g.b.y-g.a.y)*(g.m.x-g.a.x))<=max (max (aI (g.b.x-g.a.x)) (aI (g.b.y-g.a.y))) 1
instance (g:NrG):Decidable (nearP g):=by unfold nearP; infer_instance
structure Cur where
 x0:Int
 y0:Int
 x1:Int
 y1:Int
 x2:Int
 y2:Int
 w:Int
def inC (x:Int):Prop:= -32767<=x/\x<=32767
def Cur.ok (c:Cur):Prop:=((inC c.x0/\inC c.y0)/\inC c.x1/\inC c.y1)/\(inC c.x2/\inC c.y2)/\16<=c.w/\c.w<=4096
def sumC (w k n:Int):Int:=256*(n-k)*(n-k)+2*k*(n-k)*w+256*k*k
def atC (x0 x1 x2 w k n:Int):Int:=nr (256*(n-k)*(n-k)*x0+2*k*(n-k)*w*x1+256*k*k*x2) (sumC w k n)
def Cur.at (c:Cur) (k n:Int):Pt:=⟨atC c.x0 c.x1 c.x2 c.w k n,atC c.y0 c.y1 c.y2 c.w k n⟩
structure AtG where
 c:Cur
 k:Int
 n:Int
def AtG.ok (g:AtG):Prop:=g.c.ok/\(0<=g.k/\g.k<=g.n)/\1<=g.n/\g.n<=1024
def midP (c:Cur) (n k:Int):Prop:=nearP ⟨c.at k n,c.at (2*k+1) (2*n),c.at (k+1) n⟩
instance (c:Cur) (n k:Int):Decidable (midP c n k):=by unfold midP; infer_instance
structure FlG where
 c:Cur
 n:Int
end Go.Proofs.YthappngbapbkfaaGreat.Con
set_option linter.unusedSimpArgs false
set_option linter.unusedVariables false
namespace Go.Proofs.YthappngbapbkfaaGreat.Rga
open Go.RowKit Sx Num Aff Con
set_option maxRecDepth 100000
structure Rn where
 y:Int
 x0:Int
 x1:Int
def rnL (r:Rn):List SV:=[.int .i64 r.y,.int .i64 r.x0,.int .i64 r.x1]
def rnS (r:Rn):SV:= .agg 3 (lst (rnL r))
def rnD (g:Nat->SV):Rn:=⟨Sx.intOf (g 0),Sx.intOf (g 1),Sx.intOf (g 2)⟩
def rI (L:List Rn) (i:Nat):Rn:=L.getD i ⟨0,0,0⟩
structure Rg where
 n:Nat
 f:Nat->Rn
def Rg.L (g:Rg):List Rn:=(List.range g.n).map g.f
def rgS (g:Rg):SV:= .sl g.n 3 (fun i=>lst (rnL (g.f i)))
def a14 (L:List Rn):SV:= .sl L.length 3 (fun i=>lst (rnL (rI L i)))
def rgD:SV->Nat->Rn
 | .sl _ _ f=>fun i=>rnD (f i)
 | _=>fun _=>⟨0,0,0⟩
theorem Rg.L_of (L:List Rn):Rg.L ⟨L.length,rI L⟩=L:=by
 unfold Rg.L
 apply List.ext_getElem
 ·simp
 ·intro i h1 h2
  simp [rI,List.getD_eq_getElem?_getD,List.getElem?_eq_getElem h2]
theorem Rg.len (g:Rg):g.L.length=g.n:=by simp [Rg.L]
theorem Rg.rI {g:Rg}{i:Nat}(h:i<g.n):rI g.L i=g.f i:=by
 simp [Rga.rI,Rg.L,List.getD_eq_getElem?_getD,h]
def okR (r:Rn):Prop:=((-8192<=r.y/\r.y<8192)/\(-8192<=r.x0/\r.x0<=8192)/\ -8192<=r.x1/\r.x1<=8192)/\r.x0<r.x1
def ltR (r s:Rn):Prop:=r.y<s.y\/(r.y=s.y/\r.x1<s.x0)
def vld (L:List Rn):Prop:=(∀ r∈L,okR r)/\L.Pairwise ltR
def av0:FSpec:=aa5 37 (γ:=Int) (fun | [.int _ x]=>some x | _=>none) (fun x=>[.int .i64 x]) (fun _=>True) (fun x=> .bool (decide (-8192<=x)&&decide (x<8192)))
theorem aB9:aa2 Tryz.prog av0:=by
 refine aa1 (specs:=[]) (aa9 trivial) (eqs:=[]) (fun _ _ h=>(List.not_mem_nil h).elim) Aff.mixed Tryz.func37 rfl (by kernel_rfl) (fun _ _=>by kernel_rfl) (fun g=>A0) (fun g=>Nat.le_of_ble_eq_true (by kernel_rfl)) ?_
 rintro x hx
 refine ab5 (B:=let z0:=(decide ((-8192:Int)<=x)&&decide (x<(8192:Int)));True/\True/\True/\True/\Sx.Br (decide ((-8192:Int)<=x)) (True/\True/\True/\True/\True/\Sx.Ask (decide (x<(8192:Int))=z0)) (True/\True/\True/\Sx.Ask (false=z0))) (by kernel_rfl) ?_
 simp only [aa4,aa8,eq_self,true_and,and_true,implies_true,forall_const,decide_eq_true_eq,decide_eq_false_iff_not,ne_eq,Nat.mul_one,Nat.add_zero,Nat.zero_add]
 refine ⟨fun h=>?_,fun h=>?_⟩
 ·rw [decide_eq_true h]; rfl
 ·rw [decide_eq_false h]; rfl
def aQ3:FSpec:=aa5 42 (γ:=Int) (fun | [.int _ x]=>some x | _=>none) (fun x=>[.int .i64 x]) (fun _=>True) (fun x=> .bool (decide (-8192<=x)&&decide (x<=8192)))
theorem aW7:aa2 Tryz.prog aQ3:=by
 refine aa1 (specs:=[]) (aa9 trivial) (eqs:=[]) (fun _ _ h=>(List.not_mem_nil h).elim) Aff.mixed Tryz.func42 rfl (by kernel_rfl) (fun _ _=>by kernel_rfl) (fun g=>A0) (fun g=>Nat.le_of_ble_eq_true (by kernel_rfl)) ?_
 rintro x hx
 refine ab5 (B:=let z0:=(decide ((-8192:Int)<=x)&&decide (x<=(8192:Int)));True/\True/\True/\True/\Sx.Br (decide ((-8192:Int)<=x)) (True/\True/\True/\True/\True/\Sx.Ask (decide (x<=(8192:Int))=z0)) (True/\True/\True/\Sx.Ask (false=z0))) (by kernel_rfl) ?_
 simp only [aa4,aa8,eq_self,true_and,and_true,implies_true,forall_const,decide_eq_true_eq,decide_eq_false_iff_not,ne_eq,Nat.mul_one,Nat.add_zero,Nat.zero_add]
 refine ⟨fun h=>?_,fun h=>?_⟩
 ·rw [decide_eq_true h]; rfl
 ·rw [decide_eq_false h]; rfl
def addR (L:List Rn) (r:Rn):List Rn:=if r.x0<r.x1 then (match L.getLast? with
 | some s=>if s.y=r.y/\r.x0<=s.x1 then L.dropLast++[⟨s.y,s.x0,if r.x1>s.x1 then r.x1 else s.x1⟩] else L++[r]
 | none=>[r]) else L
theorem rI_app (L:List Rn) (r:Rn) (i:Nat) (h:i<L.length+1):rI (L++[r]) i=if i<L.length then rI L i else r:=by
 unfold rI
 by_cases hi:i<L.length
 ·rw [if_pos hi,List.getD_eq_getElem?_getD,List.getElem?_append_left hi,List.getD_eq_getElem?_getD]
 ·rw [if_neg hi,show i=L.length by omega]
  simp
theorem rI_last (L:List Rn) (s:Rn) (i:Nat) (h:i<L.length) (h0:0<L.length):rI (L.dropLast++[s]) i=if i=L.length-1 then s else rI L i:=by
 unfold rI
 by_cases hi:i=L.length-1
 ·rw [if_pos hi,hi]
  simp
 ·rw [if_neg hi,List.getD_eq_getElem?_getD,List.getElem?_append_left (by rw [List.length_dropLast]; omega),List.getD_eq_getElem?_getD,List.getElem?_dropLast,if_pos (by omega)]
structure AdG where
 n:Nat
 f:Nat->Rn
 r:Rn
def AdG.L (g:AdG):List Rn:=addR (Rg.L ⟨g.n,g.f⟩) g.r
def adD:List SV->List SO->Option AdG
 | [_,.int _ y,.int _ x0,.int _ x1],[_,.row _ n _ g _]=>some ⟨n,fun i=>rnD (g i),⟨y,x0,x1⟩⟩
 | _,_=>none
def spAddR:FSpec:=ad5 58 [.arg 0,.cell 0 0] adD (fun g=>[.own 0 0,.int .i64 g.r.y,.int .i64 g.r.x0,.int .i64 g.r.x1])
 (fun g=>[.cells 1 (lst [.osl 1 0]) 111,.row 0 g.n 3 (fun i=>lst (rnL (g.f i))) 70]) (fun g=>g.n<=4294967296)
 (fun _=> .tup 0 (lst []))
 (fun g=>[.cells 1 (lst [.osl 1 1]) 111,.row 1 g.L.length 3 (fun i=>lst (rnL (rI g.L i))) 70])
theorem ok_addR:aa2 Tryz.prog spAddR:=by
 refine ad2 (specs:=[]) (aa9 trivial) (eqs:=[]) (fun _ _ h=>(List.not_mem_nil h).elim) Aff.mixed Tryz.func58 rfl (by kernel_rfl) (fun _ _=>by kernel_rfl) (fun g=>A0) false (fun g=>Nat.le_of_ble_eq_true (by kernel_rfl)) ?_
 rintro g hg
 refine ab5 (B:=let T5:=fun p:Prop=>True/\True/\True/\True/\True/\p;let T10:=fun p:Prop=>True/\True/\True/\True/\True/\True/\True/\True/\True/\True/\p;let K:=Sx.Br;let A:=Sx.Ask;let z11:=(2:Nat);let z10:=(0:Nat);let z9:=(1:Nat);let z7:=(↑g.n:Int);let z5:=(True/\True);let z4:=(IntKind.i64=IntKind.i64);let z3:=(g.n+z9<=(9223372036854775807:Nat)/\(g.n+z9)*(24:Nat)<=(140737488355328:Nat));let z2:=((0:Int)<=z7-(1:Int)/\z7-(1:Int)<z7);let z1:=(z7-(1:Int));let z8:=(z1.toNat<g.n);let z6:=(g.f z1.toNat);let z0:=(A (g.n+z9=g.L.length)/\∀ i:Nat,i<g.L.length->((True/\A z4/\A ((bif decide (i<g.n) then (g.f i).y else g.r.y)=(rI g.L i).y))/\A z4/\A ((bif decide (i<g.n) then (g.f i).x0 else g.r.x0)=(rI g.L i).x0))/\A z4/\A ((bif decide (i<g.n) then (g.f i).x1 else g.r.x1)=(rI g.L i).x1));True/\True/\True/\K (decide (g.r.x1<=g.r.x0)) (True/\True/\z5/\z5/\(A (g.n=g.L.length)/\∀ i:Nat,i<g.L.length->((True/\A z4/\A ((g.f i).y=(rI g.L i).y))/\A z4/\A ((g.f i).x0=(rI g.L i).x0))/\A z4/\A ((g.f i).x1=(rI g.L i).x1))/\True) (T5 (A ((-9223372036854775808:Int)<=z7-(1:Int)/\z7-(1:Int)<=(9223372036854775807:Int))/\True/\True/\True/\True/\K (decide ((0:Int)<=z7-(1:Int))) (T5 (A z2/\True/\A z8/\True/\True/\True/\True/\K (decide (z6.y=g.r.y)) (T5 (True/\A z2/\True/\A z8/\True/\True/\K (decide (g.r.x0<=z6.x1)) (T10 (A z2/\True/\A z8/\True/\True/\A z2/\True/\A z8/\True/\True/\z5/\z5/\(A (g.n=g.L.length)/\∀ i:Nat,i<g.L.length->((True/\A z4/\A ((bif decide (i=z1.toNat/\z10+z11<=z10/\z10<z10+z11+z9) then if g.r.x1>z6.x1 then g.r.x1 else z6.x1 else (g.f i).y)=(rI g.L i).y))/\A z4/\A ((bif decide (i=z1.toNat/\z10+z11<=z9/\z9<z10+z11+z9) then if g.r.x1>z6.x1 then g.r.x1 else z6.x1 else (g.f i).x0)=(rI g.L i).x0))/\A z4/\A ((bif decide (i=z1.toNat/\z10+z11<=z11/\z11<z10+z11+z9) then if g.r.x1>z6.x1 then g.r.x1 else z6.x1 else (g.f i).x1)=(rI g.L i).x1))/\True)) (T10 (A z3/\T5 (z5/\z5/\z0/\True))))) (T10 (True/\A z3/\T5 (z5/\z5/\z0/\True))))) (T10 (True/\True/\True/\A z3/\T5 (z5/\z5/\z0/\True)))))) (by kernel_rfl) ?_
 simp only [aa4,aa8,eq_self,true_and,and_true,implies_true,forall_const,decide_eq_true_eq,decide_eq_false_iff_not,ne_eq,Nat.mul_one,Nat.add_zero,Nat.zero_add]
 have hlen:(Rg.L ⟨g.n,g.f⟩).length=g.n:=Rg.len _
 have hget:∀ i,i<g.n->rI (Rg.L ⟨g.n,g.f⟩) i=g.f i:=fun i hi=>Rg.rI (g:=⟨g.n,g.f⟩) hi
 have hL:g.L=addR (Rg.L ⟨g.n,g.f⟩) g.r:=rfl
 generalize Rg.L ⟨g.n,g.f⟩=L at hlen hget hL
 rw [hL]
 have app:∀ (i:Nat),i<(L++[g.r]).length->((bif decide (i<g.n) then (g.f i).y else g.r.y)=(rI (L++[g.r]) i).y/\(bif decide (i<g.n) then (g.f i).x0 else g.r.x0)=(rI (L++[g.r]) i).x0)/\(bif decide (i<g.n) then (g.f i).x1 else g.r.x1)=(rI (L++[g.r]) i).x1:=fun i hi=>by
  rw [rI_app L g.r i (by simpa using hi),hlen]
  by_cases h:i<g.n
  ·rw [decide_eq_true h,if_pos h,hget i h]; exact ⟨⟨rfl,rfl⟩,rfl⟩
  ·rw [decide_eq_false h,if_neg h]; exact ⟨⟨rfl,rfl⟩,rfl⟩
 have bnd:g.n+1<=9223372036854775807/\(g.n+1)*24<=140737488355328:=by omega
 have e1:((g.n:Int)-1).toNat=g.n-1:=by omega
 rw [e1]
 refine ⟨fun h=>?_,fun h=>⟨by omega,fun h0=>?_,fun h0=>?_⟩⟩
 ·have e:addR L g.r=L:=if_neg (by omega)
  rw [e]
  exact ⟨hlen.symm,fun i hi=>by rw [hget i (by omega)]; exact ⟨⟨rfl,rfl⟩,rfl⟩⟩
 ·have hn:0<g.n:=by omega
  have hlast:L.getLast?=some (g.f (g.n-1)):=by
   rw [<-hget (g.n-1) (by omega),List.getLast?_eq_getElem?,hlen]
   unfold rI
   rw [List.getD_eq_getElem?_getD,List.getElem?_eq_getElem (show g.n-1<L.length by omega)]
   rfl
  have ea:addR L g.r=if (g.f (g.n-1)).y=g.r.y/\g.r.x0<=(g.f (g.n-1)).x1 then L.dropLast++[⟨(g.f (g.n-1)).y,(g.f (g.n-1)).x0,if g.r.x1>(g.f (g.n-1)).x1 then g.r.x1 else (g.f (g.n-1)).x1⟩] else L++[g.r]:=by
   unfold addR
   rw [if_pos (by omega),hlast]
  have q1:0<=(g.n:Int)-1/\(g.n:Int)-1<g.n:=by omega
  have q2:g.n-1<g.n:=by omega
  refine ⟨q1,q2,fun hy=>⟨q1,q2,fun hx=>⟨q1,q2,q1,q2,?_⟩,fun hx=>⟨bnd,?_⟩⟩,fun hy=>⟨bnd,?_⟩⟩
  ·rw [ea,if_pos ⟨hy,hx⟩]
   refine ⟨by rw [List.length_append,List.length_dropLast,List.length_singleton]; omega,fun i hi=>?_⟩
   rw [rI_last L _ i (by rw [List.length_append,List.length_dropLast,List.length_singleton] at hi; omega) (by omega),hlen]
   by_cases h:i=g.n-1
   ·rw [decide_eq_false (by omega),decide_eq_false (by omega),decide_eq_true ⟨h,by omega⟩,if_pos h,h]
    exact ⟨⟨rfl,rfl⟩,rfl⟩
   ·rw [decide_eq_false (by omega),decide_eq_false (by omega),decide_eq_false (by omega),if_neg h,hget i (by rw [List.length_append,List.length_dropLast,List.length_singleton] at hi; omega)]
    exact ⟨⟨rfl,rfl⟩,rfl⟩
  ·rw [ea,if_neg (fun h=>hx h.2)]
   exact ⟨by simp [hlen],app⟩
  ·rw [ea,if_neg (fun h=>hy h.1)]
   exact ⟨by simp [hlen],app⟩
 ·have hn:g.n=0:=by omega
  have eL:L=[]:=List.length_eq_zero_iff.1 (by omega)
  have ea:addR L g.r=L++[g.r]:=by
   unfold addR
   rw [if_pos (by omega),eL]
   rfl
  rw [ea]
  exact ⟨bnd,by simp [hlen],app⟩
def orI (a b:Int):Int:=if a=0 then b else a
structure Eg where
 y:Int
 x:Int
 who:Int
structure EsG where
 g:Rg
 w:Int
def eX (f:Nat->Rn) (k:Nat):Int:=if k % 2=0 then (f (k / 2)).x0 else (f (k / 2)).x1
end Go.Proofs.YthappngbapbkfaaGreat.Rga
namespace Go.Proofs.YthappngbapbkfaaGreat.Sx
open Go.RowKit
def TI (N:Nat) (X:Nat->Prop) (τ:Tmps) (a:Act) (W:World):Prop:=a.tmps.size=N/\a.defers=[]/\∀ t,t<N->R W X E0 (ac8 τ t) (a.tmps.getD t undef)
def XB (n:Nat) (X B:Nat->Prop) (W:World) (b:Nat):Prop:=b<W.heap.size/\¬ B b/\(n<=b\/X b)
def SI (N n:Nat) (X:Nat->Prop) (J:Nat->(Nat->Prop)->World->Prop) (τ:Tmps) (i:Nat) (a:Act) (W:World):Prop:=∃ B,J i B W/\TI N (XB n X B W) τ a W
def JClosed (J:Nat->(Nat->Prop)->World->Prop):Prop:=(∀ i B W W',J i B W->Below W.heap.size W W'->J i (fun b=>B b\/(W.heap.size<=b/\b<W'.heap.size)) W')/\∀ i B W,J i B W->∀ b,B b->b<W.heap.size
section
variable {P:Program}{specs:List FSpec}{eqs:List (TypeId×List CK)}{N n:Nat}{X:Nat->Prop}{J:Nat->(Nat->Prop)->World->Prop}
theorem TI.eval {τ:Tmps}{a:Act}{W:World}{X':Nat->Prop}(h:TI N X' τ a W) (x:Operand):R W X' E0 (evO N τ x) (a.eval x):=
 ag8 (n0:=none) (w:=W) (X:=X') (E:=E0) (N:=N) (τ:=τ) (a:=a) ⟨h.1,by rw [h.2.1]; exact au4.nil _ _ _,h.2.2⟩ x
end
def purT:Tmps->Tmps
 | []=>[]
 | (t,s)::r=>match ac3 6 s with
  | true=>(t,s)::purT r
  | false=>(t,.any)::purT r
theorem aH6:∀ (τ:Tmps) (t:Nat),ac8 (purT τ) t=if ac3 6 (ac8 τ t)=true then ac8 τ t else .any
 | [],t=>by simp only [purT,ac8]; exact (ite_self _).symm
 | (u,s)::r,t=>by
  simp only [purT]
  split<;>rename_i hp<;>simp only [ac8]<;>split
  ·first | (rw [if_pos hp]) | rfl
  ·exact aH6 r t
  ·first | (rw [if_neg (by rw [hp]; simp)]) | rfl
  ·exact aH6 r t
structure YLoop:Type 1 where
 γ:Type
 pre:γ->Prop
 τ:γ->Tmps
 idx:γ->Nat
 meas:γ->Nat
 ann:γ->Ann:=fun _=>A0
 tag:γ->Nat:=fun _=>0
structure YAnn:Type 1 where
 loops:List (Nat×(Nat->YLoop))
 ys:List (Nat×Nat)
section
variable {P:Program}{specs:List FSpec}{eqs:List (TypeId×List CK)}{N n:Nat}{X:Nat->Prop}{J:Nat->(Nat->Prop)->World->Prop}
theorem SI.pur {i:Nat}{B:Nat->Prop}{W:World}(hJ:JClosed J) (hj:J i B W) {s':St}{a':Act}{W':World}(h:StR W ⟨XB n X B W,fun _=>False,E0,false⟩ N s' a' W'):SI N n X J (purT s'.τ) i a' W':=by
 obtain ⟨E',hrep,htr⟩:=h
 have hbel:Below W.heap.size W W':=hrep.below.all
 refine ⟨_,hJ.1 i B W W' hj hbel,htr.1,htr.2.1.1 rfl,fun t ht=>?_⟩
 rw [aH6]
 split
 ·rename_i hp
  refine (ad8 6 _ _ hp (htr.2.2 t ht)).mono (fun _ _ _=>rfl) (fun b hlt hb=>?_) (Env.le_refl _)
  obtain ⟨b1,b2,b3⟩:=hb
  exact .inl ⟨Classical.byContradiction fun hc=>b2 (.inr ⟨by omega,b1⟩),fun hc=>b2 (.inl hc),b3⟩
 ·exact .any
end
end Go.Proofs.YthappngbapbkfaaGreat.Sx
set_option linter.unusedSimpArgs false
set_option linter.unusedVariables false
namespace Go.Proofs.YthappngbapbkfaaGreat.Sx
open Go.RowKit
theorem aU5 {w w':World}{X X':Nat->Prop}(hk:∀ b c T fr,w.heap[b]?=some (.cells c T fr)->¬ X b->w'.heap[b]?=some (.cells c T fr)) (hx:∀ b,b<w.heap.size->X' b->X b) {E:Env}{s:SV}{v:Value}(h:R w X E s v):R w' X' E s v:=by
 induction h with
 | any=>exact .any
 | int=>exact .int
 | bool=>exact .bool
 | lit=>exact .lit
 | str=>exact .str
 | nilfn=>exact .nilfn
 | cap0=>exact .cap0
 | fn hs _ ih=>exact .fn hs ih
 | fnb hs _ ih=>exact .fnb hs ih
 | agg hs ho _ ih=>exact .agg hs ho ih
 | tup hs _ ih=>exact .tup hs ih
 | sl0=>exact .sl0
 | sl hb hX hc hl ho _ ih=>exact .sl (hk _ _ _ _ hb hX) (fun hc=>hX (hx _ (lt_of_block hb) hc)) hc hl ho ih
 | ref hb hX hc ho _ ih=>exact .ref (hk _ _ _ _ hb hX) (fun hc=>hX (hx _ (lt_of_block hb) hc)) hc ho ih
 | own h=>exact .own h
 | osl h hv=>exact .osl h hv
 | oslOld h hl hv=>exact .oslOld h hl hv
 | ownAt h=>exact .ownAt h
 | ownAtOld h hl hv=>exact .ownAtOld h hl hv
 | win h hl ha h0=>exact .win h hl ha h0
 | nilsl=>exact .nilsl
 | slN _ ih=>exact .slN ih
 | con=>exact .con
 | pin h=>exact .pin h
 | part h hl=>exact .part h hl
 | partOld h hl hv=>exact .partOld h hl hv
 | omap h=>exact .omap h
 | omapOld h hl=>exact .omapOld h hl
 | winOld h hl hv=>exact .winOld h hl hv
 | slP hb hX hc hl ho _ ih=>exact .slP (hk _ _ _ _ hb hX) (fun hc=>hX (hx _ (lt_of_block hb) hc)) hc hl ho ih
 | refP hb hX hc ho _ ih=>exact .refP (hk _ _ _ _ hb hX) (fun hc=>hX (hx _ (lt_of_block hb) hc)) hc ho ih
 | ifc ho _ ih=>exact .ifc ho ih
theorem R_pure {w:World}{X:Nat->Prop}{E:Env}{s:SV}{v:Value}(h:R w X E s v):ae7 s->∀ E',R w X E' s v:=by
 induction h with
 | any=>intro _ E'; exact .any
 | int=>intro _ E'; exact .int
 | bool=>intro _ E'; exact .bool
 | lit=>intro _ E'; exact .lit
 | str=>intro _ E'; exact .str
 | nilfn=>intro _ E'; exact .nilfn
 | cap0=>intro _ E'; exact .cap0
 | fn hs _ ih=>intro hn E'; exact .fn hs fun i hi=>ih i hi (hn i) E'
 | fnb hs _ ih=>intro hn E'; exact .fnb hs fun i hi=>ih i hi (hn i) E'
 | agg hs ho _ ih=>intro hn E'; exact .agg hs ho fun i hi=>ih i hi (hn i) E'
 | tup hs _ ih=>intro hn E'; exact .tup hs fun i hi=>ih i hi (hn i) E'
 | sl0=>intro _ E'; exact .sl0
 | sl hb hX hc hl ho h _=>intro _ E'; exact .sl hb hX hc hl ho h
 | ref hb hX hc ho h _=>intro _ E'; exact .ref hb hX hc ho h
 | own=>intro hn; exact hn.elim
 | osl=>intro hn; exact hn.elim
 | oslOld=>intro hn; exact hn.elim
 | ownAt=>intro hn; exact hn.elim
 | ownAtOld=>intro hn; exact hn.elim
 | win=>intro hn; exact hn.elim
 | nilsl=>intro _ E'; exact .nilsl
 | slN=>intro hn; exact hn.elim
 | con=>intro _ E'; exact .con
 | pin=>intro hn; exact hn.elim
 | part=>intro hn; exact hn.elim
 | partOld=>intro hn; exact hn.elim
 | omap=>intro hn; exact hn.elim
 | omapOld=>intro hn; exact hn.elim
 | winOld=>intro hn; exact hn.elim
 | slP=>intro hn; exact hn.elim
 | refP=>intro hn; exact hn.elim
 | ifc ho _ ih=>intro hn E'; exact .ifc ho (ih (hn 0) E')
structure GF:Type where
 n:Nat
 b:Nat->Nat
 c:Nat->Option Nat
 hd:Nat->Nat->SV
 m:Nat->Nat
 p:Nat->Nat->SV
 ho:Option Nat
 hv:Nat->Value
 mv:Nat->Value
def GF.blk (F:GF) (x:Nat):Prop:=∃ i,i<F.n/\F.ho≠some i/\(F.b i=x\/F.c i=some x)
def One (TG TM:TypeId) (w:World) (X:Nat->Prop) (b:Nat) (c:Option Nat) (hd:Nat->SV) (m:Nat) (p:Nat->SV):Prop:=
 ∃ vs,w.heap[b]?=some (.cells vs TG (0,0))/\vs.size=37/\(∀ j,j<36->ab3 (vs.getD j undef)/\R w X E0 (hd j) (vs.getD j undef))/\ad1 (vs.getD 36 undef)=c/\aq9 w X 1 TM (vs.getD 36 undef) m (fun a _=>p a)
structure GF.Ok (TG TM:TypeId) (F:GF) (w:World) (X:Nat->Prop) (b0:Nat):Prop where
 pos:0<F.n
 head:F.b 0=b0
 one:∀ i,i<F.n->F.ho≠some i->One TG TM w X (F.b i) (F.c i) (F.hd i) (F.m i) (F.p i)
 hole:∀ h,F.ho=some h->(∀ j,j<36->ab3 (F.hv j)/\R w X E0 (F.hd h j) (F.hv j))/\∀ a,a<F.m h->ab3 (F.mv a)/\R w X E0 (F.p h a) (F.mv a)
 inj:∀ i i',i<F.n->i'<F.n->F.ho≠some i->F.ho≠some i'->F.b i=F.b i'->i=i'
 apart:∀ i i' x,i<F.n->i'<F.n->F.ho≠some i->F.ho≠some i'->F.b i=x->F.c i'=some x->False
 inj2:∀ i i' x,i<F.n->i'<F.n->F.ho≠some i->F.ho≠some i'->F.c i=some x->F.c i'=some x->i=i'
theorem One.mono {TG TM w w' X X' b c hd m p} (hk:∀ b c T fr,w.heap[b]?=some (.cells c T fr)->¬ X b->w'.heap[b]?=some (.cells c T fr)) (hx:∀ b,b<w.heap.size->X' b->X b)
  (ho:∀ x cs T fr,(b=x\/c=some x)->w.heap[x]?=some (.cells cs T fr)->w'.heap[x]?=some (.cells cs T fr)) (h:One TG TM w X b c hd m p):One TG TM w' X' b c hd m p:=by
 obtain ⟨vs,h1,h2,h3,h4,ys,h5,h6⟩:=h
 refine ⟨vs,ho b _ _ _ (.inl rfl) h1,h2,fun j hj=>⟨(h3 j hj).1,aU5 hk hx (h3 j hj).2⟩,h4,ys,?_,fun i j hi hj=>⟨(h6 i j hi hj).1,aU5 hk hx (h6 i j hi hj).2⟩⟩
 rcases h5 with h | ⟨b',cap,cur,e1,e2,e3⟩
 ·exact .inl h
 ·refine .inr ⟨b',cap,cur,e1,ho b' _ _ _ (.inr ?_) e2,e3⟩
  rw [<-h4,e1]; rfl
theorem One.weak {TG TM w X X' b c hd m p} (hx:∀ b,X' b->X b) (h:One TG TM w X b c hd m p):One TG TM w X' b c hd m p:=h.mono (fun _ _ _ _ h _=>h) (fun b _ h=>hx b h) (fun _ _ _ _ _ h=>h)
def gfQ (TG TM:TypeId) (F:GF):Cus where
 blk:=F.blk
 ok:=F.Ok TG TM
 mono:=fun {w w' X X' b0} hk hx h=>⟨h.pos,h.head,fun i hi hh=>(h.one i hi hh).mono (fun b c T fr e hX=>hk b c T fr e (.inr hX)) hx (fun x cs T fr hx e=>hk x cs T fr e (.inl ⟨i,hi,hh,hx⟩)),fun h' hh=>⟨fun j hj=>⟨((h.hole h' hh).1 j hj).1,aU5 (fun b c T fr e hX=>hk b c T fr e (.inr hX)) hx ((h.hole h' hh).1 j hj).2⟩,fun a ha=>⟨((h.hole h' hh).2 a ha).1,aU5 (fun b c T fr e hX=>hk b c T fr e (.inr hX)) hx ((h.hole h' hh).2 a ha).2⟩⟩,h.inj,h.apart,h.inj2⟩
 lt:=fun {w X b0 b} h hb=>by
  obtain ⟨i,hi,hh,hb⟩:=hb
  obtain ⟨vs,h1,h2,h3,h4,ys,h5,h6⟩:=h.one i hi hh
  rcases hb with rfl | hb
  ·exact ⟨_,_,_,h1⟩
  ·rcases h5 with ⟨a,e1,_⟩ | ⟨b',cap,cur,e1,e2,_⟩
   ·rw [e1] at h4; rw [<-h4] at hb; cases a<;>simp [ad1] at hb
   ·rw [e1] at h4
    have:b'=b:=by rw [<-h4] at hb; simpa [ad1] using hb
    subst this
    exact ⟨_,_,_,e2⟩
def topC (hv:Nat->Value) (K:Nat) (j:Nat):SV:=bif Nat.beq j 36 then .osl K 0 else .con (hv j)
def GF.take (F:GF) (i:Nat) (hv mv:Nat->Value):GF:={ F with ho:=some i,hv:=hv,mv:=mv }
theorem Rep.gtake {w0 X0 H E w} {TG TM:TypeId}{F:GF}(hrep:Rep w0 X0 H E w) {k b0 i:Nat}(hk:H.getD k .dead = .cus (gfQ TG TM F)) (he:E k=some (.blk b0)) (hho:F.ho=none) (hi:i<F.n) :
  ∃ E2 hv mv,E.le E2/\E2 H.length=some (.blk (F.b i))/\Rep w0 X0 (H.set k (.cus (gfQ TG TM (F.take i hv mv)))++[.cells 37 (topC hv (H.length+1)) TG,.row 0 (F.m i) 1 (fun a _=> .con (mv a)) TM]) E2 w/\
   ∀ b,Xo X0 E2 (H.set k (.cus (gfQ TG TM (F.take i hv mv)))++[.cells 37 (topC hv (H.length+1)) TG,.row 0 (F.m i) 1 (fun a _=> .con (mv a)) TM]) b->Xo X0 E H b:=by
 have hkl:k<H.length:=hrep.dom k _ he
 have hok:=hrep.ok k _ he
 rw [hk] at hok
 have hok:F.Ok TG TM w (Xo X0 E H) b0:=hok
 have nn:∀ i,F.ho≠some i:=fun i=>by rw [hho]; simp
 obtain ⟨vs,o1,o2,o3,o4,ys,o5,o6⟩:=hok.one i hi (nn i)
 refine ⟨(E.put H.length (.blk (F.b i))).put (H.length+1) (.slc 0 (vs.getD 36 undef) (fun _=>none)),fun j=>vs.getD j undef,fun a=>ys.getD a undef,?_⟩
 generalize hhv:(fun j=>vs.getD j undef)=hv
 generalize hmv:(fun a=>ys.getD a undef)=mv
 generalize hH2:H.set k (.cus (gfQ TG TM (F.take i hv mv)))++[.cells 37 (topC hv (H.length+1)) TG,.row 0 (F.m i) 1 (fun a _=> .con (mv a)) TM]=H2
 have hlen:H2.length=H.length+2:=by rw [<-hH2]; simp
 have gk:H2.getD k .dead = .cus (gfQ TG TM (F.take i hv mv)):=by rw [<-hH2,ab6 (by simpa using hkl),ab4 hkl]
 have g1:H2.getD H.length .dead = .cells 37 (topC hv (H.length+1)) TG:=by
  rw [<-hH2]; simp [List.getD_eq_getElem?_getD]
 have g2:H2.getD (H.length+1) .dead = .row 0 (F.m i) 1 (fun a _=> .con (mv a)) TM:=by
  rw [<-hH2]; simp [List.getD_eq_getElem?_getD]
 have gj:∀ j,j<H.length->j≠k->H2.getD j .dead=H.getD j .dead:=fun j h1 h2=>by
  rw [<-hH2,ab6 (by simpa using h1),aa3 h2]
 have hn1:E H.length=none:=hrep.known
 have hn2:E (H.length+1)=none:=by
  cases hc:E (H.length+1) with
  | none=>rfl
  | some e=>have:=hrep.dom _ _ hc; omega
 generalize hE2:(E.put H.length (.blk (F.b i))).put (H.length+1) (.slc 0 (vs.getD 36 undef) (fun _=>none))=E2
 have e1:E2 H.length=some (.blk (F.b i)):=by rw [<-hE2,Env.ad0 (by omega),Env.ab1]
 have e2:E2 (H.length+1)=some (.slc 0 (vs.getD 36 undef) (fun _=>none)):=by rw [<-hE2,Env.ab1]
 have ej:∀ j,j<H.length->E2 j=E j:=fun j hj=>by rw [<-hE2,Env.ad0 (by omega),Env.ad0 (by omega)]
 have hle:E.le E2:=by
  rw [<-hE2]
  exact Env.le_trans (Env.ax4 hn1) (Env.ax4 (by rw [Env.ad0 (by omega)]; exact hn2))
 have edom:∀ j e,E2 j=some e->j<H.length\/j=H.length\/j=H.length+1:=fun j e hj=>by
  by_cases h1:j=H.length
  ·exact .inr (.inl h1)
  ·by_cases h2:j=H.length+1
   ·exact .inr (.inr h2)
   ·rw [<-hE2,Env.ad0 h2,Env.ad0 h1] at hj
    exact .inl (hrep.dom _ _ hj)
 have hsrc:∀ j e b,E2 j=some e->holds e (H2.getD j .dead) b->(j=k/\∃ i',i'<F.n/\i'≠i/\(F.b i'=b\/F.c i'=some b))\/(j=H.length/\F.b i=b)\/(j=H.length+1/\F.c i=some b)\/(j≠k/\E j=some e/\holds e (H.getD j .dead) b):=by
  intro j e b hj hb
  rcases edom j e hj with h1 | h1 | h1
  ·by_cases h2:j=k
   ·subst h2
    rw [ej j h1,he] at hj
    cases hj
    rw [gk] at hb
    obtain ⟨i',a1,a2,a3⟩:=hb
    exact .inl ⟨rfl,i',a1,fun hc=>a2 (by rw [hc]; rfl),a3⟩
   ·rw [gj j h1 h2] at hb
    exact .inr (.inr (.inr ⟨h2,(ej j h1)▸hj,hb⟩))
  ·subst h1
   rw [e1] at hj
   cases hj
   rw [g1] at hb
   exact .inr (.inl ⟨rfl,hb⟩)
  ·subst h1
   rw [e2] at hj
   cases hj
   rw [g2] at hb
   exact .inr (.inr (.inl ⟨rfl,by rw [<-o4]; exact hb⟩))
 have hk2:∀ i' b,i'<F.n->(F.b i'=b\/F.c i'=some b)->holds (.blk b0) (H.getD k .dead) b:=fun i' b a1 a2=>by
  rw [hk]; exact ⟨i',a1,nn i',a2⟩
 have other:∀ {j e i' b},j≠k->E j=some e->holds e (H.getD j .dead) b->i'<F.n->(F.b i'=b\/F.c i'=some b)->False:=fun h1 h2 h3 h4 h5=>h1 (hrep.inj _ _ _ _ _ h2 he h3 (hk2 _ _ h4 h5))
 have same:∀ {i1 i2 b},i1<F.n->i2<F.n->(F.b i1=b\/F.c i1=some b)->(F.b i2=b\/F.c i2=some b)->i1=i2:=fun {i1 i2 b} a1 a2 a3 a4=>by
  rcases a3 with a3 | a3<;>rcases a4 with a4 | a4
  ·exact hok.inj i1 i2 a1 a2 (nn _) (nn _) (a3.trans a4.symm)
  ·exact (hok.apart i1 i2 b a1 a2 (nn _) (nn _) a3 a4).elim
  ·exact (hok.apart i2 i1 b a2 a1 (nn _) (nn _) a4 a3).elim
  ·exact hok.inj2 i1 i2 b a1 a2 (nn _) (nn _) a3 a4
 obtain ⟨r1,r2⟩:=hrep.redo (H2:=H2) hle (fun j e hj=>by rcases edom j e hj with h | h | h<;>omega) (fun j e b hj hb=>by
   rcases hsrc j e b hj hb with ⟨rfl,i',a1,_,a3⟩ | ⟨rfl,a3⟩ | ⟨rfl,a3⟩ | ⟨_,a1,a2⟩
   ·exact ⟨_,_,he,hk2 i' b a1 a3⟩
   ·exact ⟨_,_,he,hk2 i b hi (.inl a3)⟩
   ·exact ⟨_,_,he,hk2 i b hi (.inr a3)⟩
   ·exact ⟨_,_,a1,a2⟩) (fun hx j e hj=>by
   rcases edom j e hj with h1 | h1 | h1
   ·by_cases h2:j=k
    ·subst h2
     rw [ej j h1,he] at hj
     cases hj
     rw [gk]
     refine ⟨hok.pos,hok.head,fun i' a1 _=>(hok.one i' a1 (nn _)).weak hx,fun h' hh=>?_,fun i1 i2 a1 a2 _ _=>hok.inj i1 i2 a1 a2 (nn _) (nn _),fun i1 i2 x a1 a2 _ _=>hok.apart i1 i2 x a1 a2 (nn _) (nn _),fun i1 i2 x a1 a2 _ _=>hok.inj2 i1 i2 x a1 a2 (nn _) (nn _)⟩
     have:i=h':=by simpa [GF.take] using hh
     subst this
     refine ⟨fun j hj=>?_,fun a ha=>?_⟩
     ·have:=o3 j hj
      rw [show (F.take i hv mv).hv j=vs.getD j undef by rw [<-hhv]; rfl]
      exact ⟨this.1,ah8 hx this.2⟩
     ·have:=o6 a 0 ha Nat.one_pos
      rw [show a*1+0=a by omega] at this
      rw [show (F.take i hv mv).mv a=ys.getD a undef by rw [<-hmv]; rfl]
      exact ⟨this.1,ah8 hx this.2⟩
    ·rw [gj j h1 h2]
     rw [ej j h1] at hj
     exact (hrep.ok j e hj).mono (fun _ _ _=>rfl) (fun b _ hb=>hx b hb) hle fun _ _=>rfl
   ·subst h1
    rw [e1] at hj
    cases hj
    rw [g1]
    refine ⟨vs,o1,o2,fun j hj=>?_⟩
    by_cases h36:j=36
    ·subst h36
     obtain ⟨x1,x2,x3,x4⟩:=o5.slice
     refine ⟨by rw [x4]; rfl,?_⟩
     exact .osl e2 o5.slice
    ·have hb:topC hv (H.length+1) j = .con (vs.getD j undef):=by
      rw [<-hhv]
      unfold topC; rw [show Nat.beq j 36=false by cases hc:Nat.beq j 36 with | true=>exact absurd (Nat.eq_of_beq_eq_true hc) h36 | false=>rfl]; rfl
     rw [hb]
     exact ⟨(o3 j (by omega)).1,.con⟩
   ·subst h1
    rw [e2] at hj
    cases hj
    rw [g2]
    refine ⟨rfl,ys,o5,fun i' j' a1 a2=>⟨(o6 i' j' a1 a2).1,?_⟩⟩
    obtain rfl:j'=0:=by omega
    rw [<-hmv,show i'*1+0=i' by omega]
    exact .con) (fun j j' e e' b hj hj' hb hb'=>by
   have n1:∀ j e,E j=some e->j≠H.length/\j≠H.length+1:=fun j e h=>by have:=hrep.dom j e h; omega
   rcases hsrc j e b hj hb with ⟨r1,i1,a1,a2,a3⟩ | ⟨r1,a3⟩ | ⟨r1,a3⟩ | ⟨r1,a1,a2⟩<;>rcases hsrc j' e' b hj' hb' with ⟨q1,i2,b1,b2,b3⟩ | ⟨q1,b3⟩ | ⟨q1,b3⟩ | ⟨q1,b1,b2⟩
   ·rw [r1,q1]
   ·exact (a2 (same a1 hi a3 (.inl b3))).elim
   ·exact (a2 (same a1 hi a3 (.inr b3))).elim
   ·exact (other q1 b1 b2 a1 a3).elim
   ·exact (b2 (same b1 hi b3 (.inl a3))).elim
   ·rw [r1,q1]
   ·exact (hok.apart i i b hi hi (nn _) (nn _) a3 b3).elim
   ·exact (other q1 b1 b2 hi (.inl a3)).elim
   ·exact (b2 (same b1 hi b3 (.inr a3))).elim
   ·exact (hok.apart i i b hi hi (nn _) (nn _) b3 a3).elim
   ·rw [r1,q1]
   ·exact (other q1 b1 b2 hi (.inr a3)).elim
   ·exact (other r1 a1 a2 b1 b3).elim
   ·exact (other r1 a1 a2 hi (.inl b3)).elim
   ·exact (other r1 a1 a2 hi (.inr b3)).elim
   ·exact hrep.inj _ _ _ _ _ a1 b1 a2 b2)
 exact ⟨hle,e1,r1,r2⟩
def GF.put (F:GF) (h:Nat) (c:Option Nat) (m:Nat) (p:Nat->SV):GF:=
 { F with ho:=none,c:=fun i=>if i=h then c else F.c i,m:=fun i=>if i=h then m else F.m i,p:=fun i=>if i=h then (fun a=>if a<F.m h then F.p h a else p a) else F.p i }
theorem Rep.gput {w0 X0 H E w} {TG TM:TypeId}{F:GF}(hrep:Rep w0 X0 H E w) {k b0 h K1 K2 ver m:Nat}{g:Nat->SV}{p:Nat->Nat->SV}(hk:H.getD k .dead = .cus (gfQ TG TM F)) (he:E k=some (.blk b0)) (hho:F.ho=some h) (hh:h<F.n)
  (h1:H.getD K1 .dead = .cells 37 g TG) (he1:E K1=some (.blk (F.b h))) (h2:H.getD K2 .dead = .row ver m 1 p TM) (hg:g 36 = .osl K2 ver) (hhd:∀ j,j<36->g j = .con (F.hv j)) (hp:∀ a,a<F.m h->p a 0 = .con (F.mv a)) :
  ∃ c,Rep w0 X0 (((H.set k (.cus (gfQ TG TM (F.put h c m (fun a=>p a 0))))).set K1 .dead).set K2 .dead) E w/\
   ∀ b,Xo X0 E (((H.set k (.cus (gfQ TG TM (F.put h c m (fun a=>p a 0))))).set K1 .dead).set K2 .dead) b->Xo X0 E H b:=by
 have hkl:k<H.length:=hrep.dom k _ he
 have hok:=hrep.ok k _ he
 rw [hk] at hok
 have hok:F.Ok TG TM w (Xo X0 E H) b0:=hok
 have ok1:=hrep.ok K1 _ he1
 rw [h1] at ok1
 obtain ⟨vs,o1,o2,o3⟩:=ok1
 have nk1:k≠K1:=fun hc=>by rw [<-hc,hk] at h1; cases h1
 have nk2:k≠K2:=fun hc=>by rw [<-hc,hk] at h2; cases h2
 have n12:K1≠K2:=fun hc=>by rw [<-hc,h1] at h2; cases h2
 have o36:=(o3 36 (by omega)).2
 rw [hg] at o36
 obtain ⟨us,he2⟩:∃ us,E K2=some (.slc ver (vs.getD 36 undef) us):=by
  generalize vs.getD 36 undef=v36 at o36
  cases o36 with
  | osl q1 q2=>exact ⟨_,q1⟩
  | oslOld q1 q2 q3=>
   have:=hrep.ok K2 _ q1
   rw [h2] at this
   have:=this.1
   omega
 have ok2:=hrep.ok K2 _ he2
 rw [h2] at ok2
 obtain ⟨_,xs,o5,o6⟩:=ok2
 refine ⟨ad1 (vs.getD 36 undef),?_⟩
 generalize hH2:((H.set k (.cus (gfQ TG TM (F.put h (ad1 (vs.getD 36 undef)) m (fun a=>p a 0))))).set K1 .dead).set K2 .dead=H2
 have hlen:H2.length=H.length:=by rw [<-hH2]; simp
 have gk:H2.getD k .dead = .cus (gfQ TG TM (F.put h (ad1 (vs.getD 36 undef)) m (fun a=>p a 0))):=by
  rw [<-hH2,aa3 nk2,aa3 nk1,ab4 hkl]
 have g1:H2.getD K1 .dead = .dead:=by
  rw [<-hH2,aa3 n12,ab4 (by simpa using hrep.dom _ _ he1)]
 have g2:H2.getD K2 .dead = .dead:=by
  rw [<-hH2,ab4 (by simpa using hrep.dom _ _ he2)]
 have gj:∀ j,j≠k->j≠K1->j≠K2->H2.getD j .dead=H.getD j .dead:=fun j a1 a2 a3=>by
  rw [<-hH2,aa3 a3,aa3 a2,aa3 a1]
 have nh:∀ i,i≠h->F.ho≠some i:=fun i hi=>by rw [hho]; simp [Ne.symm hi]
 have hc1:∀ i,i≠h->(F.put h (ad1 (vs.getD 36 undef)) m (fun a=>p a 0)).c i=F.c i:=fun i hi=>if_neg hi
 have hch:(F.put h (ad1 (vs.getD 36 undef)) m (fun a=>p a 0)).c h=ad1 (vs.getD 36 undef):=if_pos rfl
 have hsrc:∀ j e b,E j=some e->holds e (H2.getD j .dead) b->(j=k/\((∃ i,i<F.n/\i≠h/\(F.b i=b\/F.c i=some b))\/F.b h=b\/ad1 (vs.getD 36 undef)=some b))\/(j≠k/\j≠K1/\j≠K2/\holds e (H.getD j .dead) b):=by
  intro j e b hj hb
  by_cases a1:j=k
  ·subst a1
   rw [he] at hj
   cases hj
   rw [gk] at hb
   obtain ⟨i,b1,_,b3⟩:=hb
   by_cases hi:i=h
   ·subst hi
    rw [hch] at b3
    exact .inl ⟨rfl,.inr b3⟩
   ·rw [hc1 i hi] at b3
    exact .inl ⟨rfl,.inl ⟨i,b1,hi,b3⟩⟩
  ·by_cases a2:j=K1
   ·subst a2; rw [g1] at hb; cases e<;>exact hb.elim
   ·by_cases a3:j=K2
    ·subst a3; rw [g2] at hb; cases e<;>exact hb.elim
    ·rw [gj j a1 a2 a3] at hb
     exact .inr ⟨a1,a2,a3,hb⟩
 have hold0:∀ i b,i<F.n->i≠h->(F.b i=b\/F.c i=some b)->holds (.blk b0) (H.getD k .dead) b:=fun i b a1 a2 a3=>by rw [hk]; exact ⟨i,a1,nh i a2,a3⟩
 have hold1:∀ b,F.b h=b->holds (.blk (F.b h)) (H.getD K1 .dead) b:=fun b hb=>by rw [h1]; exact hb
 have hold2:∀ b,ad1 (vs.getD 36 undef)=some b->holds (.slc ver (vs.getD 36 undef) us) (H.getD K2 .dead) b:=fun b hb=>by rw [h2]; exact hb
 have ib:∀ i,i<F.n->i≠h->∀ b,(F.b i=b\/F.c i=some b)->F.b h=b->False:=fun i a1 a2 b a3 a4=>nk1 (hrep.inj _ _ _ _ b he he1 (hold0 i b a1 a2 a3) (hold1 b a4))
 have ic:∀ i,i<F.n->i≠h->∀ b,(F.b i=b\/F.c i=some b)->ad1 (vs.getD 36 undef)=some b->False:=fun i a1 a2 b a3 a4=>nk2 (hrep.inj _ _ _ _ b he he2 (hold0 i b a1 a2 a3) (hold2 b a4))
 have ibc:∀ b,F.b h=b->ad1 (vs.getD 36 undef)=some b->False:=fun b a3 a4=>n12 (hrep.inj _ _ _ _ b he1 he2 (hold1 b a3) (hold2 b a4))
 exact hrep.redo (H2:=H2) (Env.le_refl _) (fun j e hj=>by rw [hlen]; exact hrep.dom j e hj) (fun j e b hj hb=>by
   rcases hsrc j e b hj hb with ⟨rfl,⟨i,a1,a2,a3⟩ | a | a⟩ | ⟨_,_,_,a⟩
   ·exact ⟨_,_,he,hold0 i b a1 a2 a3⟩
   ·exact ⟨_,_,he1,hold1 b a⟩
   ·exact ⟨_,_,he2,hold2 b a⟩
   ·exact ⟨_,_,hj,a⟩) (fun hx j e hj=>by
   by_cases a1:j=k
   ·subst a1
    rw [he] at hj
    cases hj
    rw [gk]
    refine ⟨hok.pos,hok.head,fun i a1 _=>?_,fun h' hh'=>(nomatch hh'),fun i i' a1 a2 _ _ e1=>?_,fun i i' x a1 a2 _ _ e1 e2=>?_,fun i i' x a1 a2 _ _ e1 e2=>?_⟩
    ·by_cases hi:i=h
     ·subst hi
      refine ⟨vs,o1,o2,fun j hj=>⟨(o3 j (by omega)).1,?_⟩,hch.symm,xs,?_,fun a c ha hc=>?_⟩
      ·have:=(o3 j (by omega)).2
       rw [hhd j hj] at this
       generalize vs.getD j undef=y at this
       cases this
       exact ah8 hx ((hok.hole i hho).1 j hj).2
      ·simp only [GF.put,if_true]; exact o5
      ·simp only [GF.put,if_true] at ha ⊢
       obtain rfl:c=0:=by omega
       refine ⟨(o6 a 0 ha hc).1,?_⟩
       have:=(o6 a 0 ha hc).2
       split
       ·rename_i ham
        rw [hp a ham] at this
        generalize xs.getD (a*1+0) undef=y at this
        cases this
        exact ah8 hx ((hok.hole i hho).2 a ham).2
       ·exact ah8 hx this
     ·have:=hok.one i a1 (nh i hi)
      simp only [GF.put,if_neg hi]
      exact this.weak hx
    ·by_cases hi:i=h<;>by_cases hi':i'=h
     ·omega
     ·subst hi; exact (ib i' a2 hi' _ (.inl e1.symm) rfl).elim
     ·subst hi'; exact (ib i a1 hi _ (.inl e1) rfl).elim
     ·exact hok.inj i i' a1 a2 (nh _ hi) (nh _ hi') e1
    ·by_cases hi:i=h<;>by_cases hi':i'=h
     ·subst hi; subst hi'; rw [hch] at e2; exact ibc x e1 e2
     ·subst hi; rw [hc1 i' hi'] at e2; exact ib i' a2 hi' x (.inr e2) e1
     ·subst hi'; rw [hch] at e2; exact ic i a1 hi x (.inl e1) e2
     ·rw [hc1 i' hi'] at e2; exact hok.apart i i' x a1 a2 (nh _ hi) (nh _ hi') e1 e2
    ·by_cases hi:i=h<;>by_cases hi':i'=h
     ·omega
     ·subst hi; rw [hch] at e1; rw [hc1 i' hi'] at e2; exact (ic i' a2 hi' x (.inr e2) e1).elim
     ·subst hi'; rw [hch] at e2; rw [hc1 i hi] at e1; exact (ic i a1 hi x (.inr e1) e2).elim
     ·rw [hc1 i hi] at e1; rw [hc1 i' hi'] at e2; exact hok.inj2 i i' x a1 a2 (nh _ hi) (nh _ hi') e1 e2
   ·by_cases a2:j=K1
    ·subst a2; rw [g1]; cases e<;>trivial
    ·by_cases a3:j=K2
     ·subst a3; rw [g2]; cases e<;>trivial
     ·rw [gj j a1 a2 a3]
      exact (hrep.ok j e hj).mono (fun _ _ _=>rfl) (fun b _ hb=>hx b hb) (Env.le_refl _) fun _ _=>rfl) (fun j j' e e' b hj hj' hb hb'=>by
   have src:∀ j e,E j=some e->holds e (H2.getD j .dead) b->j=k\/(j≠k/\j≠K1/\j≠K2/\holds e (H.getD j .dead) b):=fun j e hj hb=>by
    rcases hsrc j e b hj hb with ⟨a,_⟩ | a
    ·exact .inl a
    ·exact .inr a
   have mix:∀ j e,E j=some e->j≠k->j≠K1->j≠K2->holds e (H.getD j .dead) b->∀ e',E k=some e'->holds e' (H2.getD k .dead) b->False:=fun j e hj a1 a2 a3 a4 e' hj' hb'=>by
    rcases hsrc k e' b hj' hb' with ⟨_,⟨i,b1,b2,b3⟩ | a | a⟩ | ⟨a,_⟩
    ·exact a1 (hrep.inj _ _ _ _ b hj he a4 (hold0 i b b1 b2 b3))
    ·exact a2 (hrep.inj _ _ _ _ b hj he1 a4 (hold1 b a))
    ·exact a3 (hrep.inj _ _ _ _ b hj he2 a4 (hold2 b a))
    ·exact a rfl
   rcases src j e hj hb with a | ⟨a1,a2,a3,a4⟩<;>rcases src j' e' hj' hb' with c | ⟨c1,c2,c3,c4⟩
   ·rw [a,c]
   ·subst a; exact (mix j' e' hj' c1 c2 c3 c4 e hj hb).elim
   ·subst c; exact (mix j e hj a1 a2 a3 a4 e' hj' hb').elim
   ·exact hrep.inj _ _ _ _ _ hj hj' a4 c4)
def GF.add (F:GF) (b:Nat) (g:Nat->SV):GF:=
 { F with n:=F.n+1,b:=fun i=>if i=F.n then b else F.b i,c:=fun i=>if i=F.n then none else F.c i,hd:=fun i=>if i=F.n then g else F.hd i,m:=fun i=>if i=F.n then 0 else F.m i,p:=fun i=>if i=F.n then fun _=> .any else F.p i }
theorem blkOf0 (a:Option Addr):ad1 (.slice a 0 0)=none:=by cases a<;>rfl
theorem One.fresh {w X E b TG TM g} {X':Nat->Prop}(hx:∀ b,X' b->X b) (h:∃ vs,w.heap[b]?=some (.cells vs TG (0,0))/\vs.size=37/\∀ i,i<37->ab3 (vs.getD i undef)/\R w X E (g i) (vs.getD i undef)) (hg:∀ j,j<36->ae7 (g j)) (hz:g 36 = .cap0):One TG TM w X' b none g 0 (fun _=> .any):=by
 obtain ⟨vs,o1,o2,o3⟩:=h
 have h36:=(o3 36 (by omega)).2
 rw [hz] at h36
 obtain ⟨a,ha⟩:∃ a,vs.getD 36 undef = .slice a 0 0:=by
  generalize vs.getD 36 undef=v36 at h36
  cases h36
  exact ⟨_,rfl⟩
 refine ⟨vs,o1,o2,fun j hj=>⟨(o3 j (by omega)).1,ah8 hx (R_pure (o3 j (by omega)).2 (hg j hj) E0)⟩,by rw [ha]; exact blkOf0 a,[],.inl ⟨a,ha,rfl,rfl⟩,fun i j hi=>absurd hi (Nat.not_lt_zero _)⟩
theorem Rep.gadd {w0 X0 H E w} {TG TM:TypeId}{F:GF}(hrep:Rep w0 X0 H E w) {k b0 b1 K:Nat}{g:Nat->SV}(hk:H.getD k .dead = .cus (gfQ TG TM F)) (he:E k=some (.blk b0)) (hho:F.ho=none)
  (h1:H.getD K .dead = .cells 37 g TG) (he1:E K=some (.blk b1)) (hg:∀ j,j<36->ae7 (g j)) (hz:g 36 = .cap0) :
  Rep w0 X0 ((H.set k (.cus (gfQ TG TM (F.add b1 g)))).set K .dead) E w/\∀ b,Xo X0 E ((H.set k (.cus (gfQ TG TM (F.add b1 g)))).set K .dead) b->Xo X0 E H b:=by
 have hkl:k<H.length:=hrep.dom k _ he
 have hok:=hrep.ok k _ he
 rw [hk] at hok
 have hok:F.Ok TG TM w (Xo X0 E H) b0:=hok
 have ok1:=hrep.ok K _ he1
 rw [h1] at ok1
 have nk1:k≠K:=fun hc=>by rw [<-hc,hk] at h1; cases h1
 generalize hH2:(H.set k (.cus (gfQ TG TM (F.add b1 g)))).set K .dead=H2
 have hlen:H2.length=H.length:=by rw [<-hH2]; simp
 have gk:H2.getD k .dead = .cus (gfQ TG TM (F.add b1 g)):=by rw [<-hH2,aa3 nk1,ab4 hkl]
 have g1:H2.getD K .dead = .dead:=by rw [<-hH2,ab4 (by simpa using hrep.dom _ _ he1)]
 have gj:∀ j,j≠k->j≠K->H2.getD j .dead=H.getD j .dead:=fun j a1 a2=>by rw [<-hH2,aa3 a2,aa3 a1]
 have nn:∀ i,F.ho≠some i:=fun i=>by rw [hho]; simp
 have an:∀ i,i<F.n->(F.add b1 g).b i=F.b i/\(F.add b1 g).c i=F.c i:=fun i hi=>⟨if_neg (by omega),if_neg (by omega)⟩
 have ab:(F.add b1 g).b F.n=b1:=if_pos rfl
 have ac:(F.add b1 g).c F.n=none:=if_pos rfl
 have hold0:∀ i b,i<F.n->(F.b i=b\/F.c i=some b)->holds (.blk b0) (H.getD k .dead) b:=fun i b a1 a3=>by rw [hk]; exact ⟨i,a1,nn i,a3⟩
 have hold1:holds (.blk b1) (H.getD K .dead) b1:=by rw [h1]; rfl
 have hsrc:∀ j e b,E j=some e->holds e (H2.getD j .dead) b->(j=k/\((∃ i,i<F.n/\(F.b i=b\/F.c i=some b))\/b1=b))\/(j≠k/\j≠K/\holds e (H.getD j .dead) b):=by
  intro j e b hj hb
  by_cases a1:j=k
  ·subst a1
   rw [he] at hj
   cases hj
   rw [gk] at hb
   obtain ⟨i,c1,_,c3⟩:=hb
   by_cases hi:i=F.n
   ·subst hi
    rw [ab,ac] at c3
    exact .inl ⟨rfl,.inr (c3.elim id fun h=>(nomatch h))⟩
   ·have hi:i<F.n:=by have:i<F.n+1:=c1; omega
    rw [(an i hi).1,(an i hi).2] at c3
    exact .inl ⟨rfl,.inl ⟨i,hi,c3⟩⟩
  ·by_cases a2:j=K
   ·subst a2; rw [g1] at hb; cases e<;>exact hb.elim
   ·rw [gj j a1 a2] at hb
    exact .inr ⟨a1,a2,hb⟩
 have ib:∀ i,i<F.n->(F.b i=b1\/F.c i=some b1)->False:=fun i a1 a3=>nk1 (hrep.inj _ _ _ _ b1 he he1 (hold0 i b1 a1 a3) hold1)
 exact hrep.redo (H2:=H2) (Env.le_refl _) (fun j e hj=>by rw [hlen]; exact hrep.dom j e hj) (fun j e b hj hb=>by
   rcases hsrc j e b hj hb with ⟨rfl,⟨i,a1,a3⟩ | rfl⟩ | ⟨_,_,a⟩
   ·exact ⟨_,_,he,hold0 i b a1 a3⟩
   ·exact ⟨_,_,he1,hold1⟩
   ·exact ⟨_,_,hj,a⟩) (fun hx j e hj=>by
   by_cases a1:j=k
   ·subst a1
    rw [he] at hj
    cases hj
    rw [gk]
    have lt:∀ {i},i<F.n+1->i≠F.n->i<F.n:=fun h1 h2=>by omega
    refine ⟨Nat.succ_pos _,(an 0 hok.pos).1.trans hok.head,fun i a1 _=>?_,fun h' hh'=>absurd (show F.ho=some h' from hh') (nn h'),fun i i' a1 a2 _ _ e1=>?_,fun i i' x a1 a2 _ _ e1 e2=>?_,fun i i' x a1 a2 _ _ e1 e2=>?_⟩
    ·by_cases hi:i=F.n
     ·subst hi
      rw [ab,ac]
      simp only [GF.add,if_true]
      exact One.fresh hx ok1 hg hz
     ·have:=hok.one i (lt a1 hi) (nn i)
      simp only [GF.add,if_neg hi]
      exact this.weak hx
    ·by_cases hi:i=F.n<;>by_cases hi':i'=F.n
     ·omega
     ·subst hi; rw [ab,(an i' (lt a2 hi')).1] at e1; exact (ib i' (lt a2 hi') (.inl e1.symm)).elim
     ·subst hi'; rw [ab,(an i (lt a1 hi)).1] at e1; exact (ib i (lt a1 hi) (.inl e1)).elim
     ·rw [(an i (lt a1 hi)).1,(an i' (lt a2 hi')).1] at e1; exact hok.inj i i' (lt a1 hi) (lt a2 hi') (nn _) (nn _) e1
    ·by_cases hi':i'=F.n
     ·subst hi'; rw [ac] at e2; cases e2
     ·rw [(an i' (lt a2 hi')).2] at e2
      by_cases hi:i=F.n
      ·subst hi; rw [ab] at e1; subst e1; exact ib i' (lt a2 hi') (.inr e2)
      ·rw [(an i (lt a1 hi)).1] at e1; exact hok.apart i i' x (lt a1 hi) (lt a2 hi') (nn _) (nn _) e1 e2
    ·by_cases hi:i=F.n
     ·subst hi; rw [ac] at e1; cases e1
     ·by_cases hi':i'=F.n
      ·subst hi'; rw [ac] at e2; cases e2
      ·rw [(an i (lt a1 hi)).2] at e1; rw [(an i' (lt a2 hi')).2] at e2; exact hok.inj2 i i' x (lt a1 hi) (lt a2 hi') (nn _) (nn _) e1 e2
   ·by_cases a2:j=K
    ·subst a2; rw [g1]; cases e<;>trivial
    ·rw [gj j a1 a2]
     exact (hrep.ok j e hj).mono (fun _ _ _=>rfl) (fun b _ hb=>hx b hb) (Env.le_refl _) fun _ _=>rfl) (fun j j' e e' b hj hj' hb hb'=>by
   have mix:∀ j e,E j=some e->j≠k->j≠K->holds e (H.getD j .dead) b->((∃ i,i<F.n/\(F.b i=b\/F.c i=some b))\/b1=b)->False:=fun j e hj a1 a2 a4 a=>by
    rcases a with ⟨i,c1,c3⟩ | rfl
    ·exact a1 (hrep.inj _ _ _ _ b hj he a4 (hold0 i b c1 c3))
    ·exact a2 (hrep.inj _ _ _ _ _ hj he1 a4 hold1)
   rcases hsrc j e b hj hb with ⟨a,a'⟩ | ⟨a1,a2,a4⟩<;>rcases hsrc j' e' b hj' hb' with ⟨c,c'⟩ | ⟨c1,c2,c4⟩
   ·rw [a,c]
   ·exact (mix j' e' hj' c1 c2 c4 a').elim
   ·exact (mix j e hj a1 a2 a4 c').elim
   ·exact hrep.inj _ _ _ _ _ hj hj' a4 c4)
def GF.mk1 (b:Nat) (g:Nat->SV):GF:=⟨1,fun _=>b,fun _=>none,fun _=>g,fun _=>0,fun _ _=> .any,none,fun _=>undef,fun _=>undef⟩
theorem Rep.gnew {w0 X0 H E w} {TG:TypeId}(TM:TypeId) (hrep:Rep w0 X0 H E w) {b1 K:Nat}{g:Nat->SV}(h1:H.getD K .dead = .cells 37 g TG) (he1:E K=some (.blk b1)) (hg:∀ j,j<36->ae7 (g j)) (hz:g 36 = .cap0) :
  Rep w0 X0 (H.set K (.cus (gfQ TG TM (.mk1 b1 g)))) E w/\∀ b,Xo X0 E (H.set K (.cus (gfQ TG TM (.mk1 b1 g)))) b->Xo X0 E H b:=by
 have hkl:K<H.length:=hrep.dom K _ he1
 have ok1:=hrep.ok K _ he1
 rw [h1] at ok1
 generalize hH2:H.set K (.cus (gfQ TG TM (.mk1 b1 g)))=H2
 have gk:H2.getD K .dead = .cus (gfQ TG TM (.mk1 b1 g)):=by rw [<-hH2,ab4 hkl]
 have gj:∀ j,j≠K->H2.getD j .dead=H.getD j .dead:=fun j a2=>by rw [<-hH2,aa3 a2]
 have hsrc:∀ j e b,E j=some e->holds e (H2.getD j .dead) b->holds e (H.getD j .dead) b:=by
  intro j e b hj hb
  by_cases a1:j=K
  ·subst a1
   rw [he1] at hj
   cases hj
   rw [gk] at hb
   obtain ⟨i,c1,_,c3⟩:=hb
   rw [h1]
   exact c3.elim id fun h=>(nomatch h)
  ·rw [gj j a1] at hb; exact hb
 refine hrep.redo (H2:=H2) (Env.le_refl _) (fun j e hj=>by rw [<-hH2]; simpa using hrep.dom j e hj) (fun j e b hj hb=>⟨_,_,hj,hsrc j e b hj hb⟩) (fun hx j e hj=>?_) (fun j j' e e' b hj hj' hb hb'=>hrep.inj _ _ _ _ _ hj hj' (hsrc _ _ _ hj hb) (hsrc _ _ _ hj' hb'))
 by_cases a1:j=K
 ·subst a1
  rw [he1] at hj
  cases hj
  rw [gk]
  exact ⟨Nat.one_pos,rfl,fun i _ _=>One.fresh hx ok1 hg hz,fun h' hh'=>(nomatch hh'),fun i i' a1 a2 _ _ _=>by have:i<1:=a1; have:i'<1:=a2; omega,fun _ _ _ _ _ _ _ _ e2=>(nomatch e2),fun _ _ _ _ _ _ _ e1=>(nomatch e1)⟩
 ·rw [gj j a1]
  exact (hrep.ok j e hj).mono (fun _ _ _=>rfl) (fun b _ hb=>hx b hb) (Env.le_refl _) fun _ _=>rfl
def gC (TP TF:TypeId) (hd:Nat->Nat->SV) (m:Nat->Nat) (lf:Nat->Nat->Nat->SV) (kid:Nat->Nat->Option Nat):Nat->Nat->Nat->SV
 | 0,_=>fun _=> .any
 | f+1,i=>fun j=>bif Nat.beq j 36 then .sl (m i) 1 (fun a _=> .ifc ((kid i a).elim TF fun _=>TP) (fun _=> .ref 37 ((kid i a).elim (lf i a) (gC TP TF hd m lf kid f)))) else hd i j
theorem gC_R {w:World}{X:Nat->Prop}{TG TM:TypeId}{F:GF}{b0:Nat}(hok:F.Ok TG TM w X b0) (hho:F.ho=none) (hX:∀ i,i<F.n->¬ X (F.b i)/\∀ x,F.c i=some x->¬ X x) {TP TF:TypeId}{kid:Nat->Nat->Option Nat}{lf:Nat->Nat->Nat->SV}
  (hkid:∀ i a k,i<F.n->a<F.m i->kid i a=some k->k<F.n/\F.p i a = .ifc TP (fun _=> .con (.pointer (some ⟨F.b k,0,none⟩))))
  (hlf:∀ i a,i<F.n->a<F.m i->kid i a=none->F.p i a = .ifc TF (fun _=> .ref 37 (lf i a))) :
  ∀ f i,i<F.n->R w X E0 (.ref 37 (gC TP TF F.hd F.m lf kid f i)) (.pointer (some ⟨F.b i,0,none⟩)):=by
 have nn:∀ i,F.ho≠some i:=fun i=>by rw [hho]; simp
 have one:∀ i,i<F.n->∀ {g:Nat->SV},(∀ vs,w.heap[F.b i]?=some (.cells vs TG (0,0))->(∀ j,j<36->R w X E0 (F.hd i j) (vs.getD j undef))->ad1 (vs.getD 36 undef)=F.c i->aq9 w X 1 TM (vs.getD 36 undef) (F.m i) (fun a _=>F.p i a)->∀ j,j<37->R w X E0 (g j) (vs.getD j undef))->R w X E0 (.ref 37 g) (.pointer (some ⟨F.b i,0,none⟩)):=by
  intro i hi g hg
  obtain ⟨vs,o1,o2,o3,o4,ys,o5,o6⟩:=hok.one i hi (nn i)
  refine .ref o1 (hX i hi).1 (by omega) (fun j hj=>?_) (fun j hj=>?_)
  ·rw [Nat.zero_add]
   by_cases h36:j=36
   ·subst h36
    obtain ⟨x1,x2,x3,x4⟩:=o5.slice
    rw [x4]; rfl
   ·exact (o3 j (by omega)).1
  ·rw [Nat.zero_add]
   exact hg vs o1 (fun j hj=>(o3 j hj).2) o4 ⟨ys,o5,o6⟩ j hj
 intro f
 induction f with
 | zero=>intro i hi; exact one i hi fun _ _ _ _ _ _ _=> .any
 | succ f ih=>
  intro i hi
  refine one i hi fun vs _ o3 o4 hin j hj=>?_
  obtain ⟨ys,o5,o6⟩:=hin
  by_cases h36:j=36
  ·subst h36
   show R w X E0 (.sl (F.m i) 1 _) _
   rcases o5 with ⟨a,e1,e2,e3⟩ | ⟨b',cap,cur,e1,e2,e3,e4,e5,e6,e7⟩
   ·rw [e1,e2]; exact .sl0
   ·rw [e1]
    have am9:∀ a,a<F.m i->cur.getD a undef=ys.getD a undef:=fun a ha=>by
     rw [<-e6,Array.getD_eq_getD_getElem?,List.getD_eq_getElem?_getD,List.getElem?_take,if_pos (by omega),Array.getElem?_toList]
    refine .sl e2 ((hX i hi).2 b' (by rw [<-o4,e1]; rfl)) (by omega) e3 (fun a c ha hc=>?_) (fun a c ha hc=>?_)
    ·obtain rfl:c=0:=by omega
     have:=(o6 a 0 ha Nat.one_pos).1
     rw [show 0+a*1+0=a by omega,am9 a ha]
     rwa [show a*1+0=a by omega] at this
    ·obtain rfl:c=0:=by omega
     have:=(o6 a 0 ha Nat.one_pos).2
     rw [show 0+a*1+0=a by omega,am9 a ha]
     rw [show a*1+0=a by omega] at this
     have this:R w X E0 (F.p i a) (ys.getD a undef):=this
     cases hkk:kid i a with
     | none=>rw [hlf i a hi ha hkk] at this; exact this
     | some k=>
      obtain ⟨q1,q2⟩:=hkid i a k hi ha hkk
      rw [q2] at this
      show R w X E0 (.ifc TP (fun _=> .ref 37 (gC TP TF F.hd F.m lf kid f k))) _
      generalize ys.getD a undef=y at this
      cases this with
      | ifc r1 r2=>
       cases r2
       exact .ifc rfl (ih k q1)
  ·have hb:gC TP TF F.hd F.m lf kid (f+1) i j=F.hd i j:=by
    show (bif Nat.beq j 36 then _ else F.hd i j)=F.hd i j
    rw [show Nat.beq j 36=false by cases hc:Nat.beq j 36 with | true=>exact absurd (Nat.eq_of_beq_eq_true hc) h36 | false=>rfl]; rfl
   rw [hb]
   exact o3 j (by omega)
theorem Rep.ggive {w0 X0 H E w} {TG TM:TypeId}{F:GF}(hrep:Rep w0 X0 H E w) {k b0:Nat}(hk:H.getD k .dead = .cus (gfQ TG TM F)) (he:E k=some (.blk b0)) (hho:F.ho=none) :
  (Rep w0 X0 (H.set k .dead) E w/\∀ b,Xo X0 E (H.set k .dead) b->Xo X0 E H b)/\F.Ok TG TM w (Xo X0 E (H.set k .dead)) b0/\∀ i,i<F.n->¬ Xo X0 E (H.set k .dead) (F.b i)/\∀ x,F.c i=some x->¬ Xo X0 E (H.set k .dead) x:=by
 have hkl:k<H.length:=hrep.dom k _ he
 have hok:=hrep.ok k _ he
 rw [hk] at hok
 have hok:F.Ok TG TM w (Xo X0 E H) b0:=hok
 have nn:∀ i,F.ho≠some i:=fun i=>by rw [hho]; simp
 generalize hH2:H.set k .dead=H2
 have gk:H2.getD k .dead = .dead:=by rw [<-hH2,ab4 hkl]
 have gj:∀ j,j≠k->H2.getD j .dead=H.getD j .dead:=fun j a2=>by rw [<-hH2,aa3 a2]
 have hsrc:∀ j e b,E j=some e->holds e (H2.getD j .dead) b->j≠k/\holds e (H.getD j .dead) b:=by
  intro j e b hj hb
  by_cases a1:j=k
  ·subst a1; rw [gk] at hb; cases e<;>exact hb.elim
  ·rw [gj j a1] at hb; exact ⟨a1,hb⟩
 have hr:=hrep.redo (H2:=H2) (Env.le_refl _) (fun j e hj=>by rw [<-hH2]; simpa using hrep.dom j e hj) (fun j e b hj hb=>⟨_,_,hj,(hsrc j e b hj hb).2⟩) (fun hx j e hj=>by
   by_cases a1:j=k
   ·subst a1; rw [gk]; cases e<;>trivial
   ·rw [gj j a1]
    exact (hrep.ok j e hj).mono (fun _ _ _=>rfl) (fun b _ hb=>hx b hb) (Env.le_refl _) fun _ _=>rfl) (fun j j' e e' b hj hj' hb hb'=>hrep.inj _ _ _ _ _ hj hj' (hsrc _ _ _ hj hb).2 (hsrc _ _ _ hj' hb').2)
 refine ⟨hr,⟨hok.pos,hok.head,fun i a1 a2=>(hok.one i a1 a2).weak hr.2,fun h' hh'=>absurd hh' (nn h'),hok.inj,hok.apart,hok.inj2⟩,?_⟩
 have key:∀ i x,i<F.n->(F.b i=x\/F.c i=some x)->¬ Xo X0 E H2 x:=fun i x hi hx hc=>by
  have h0:holds (.blk b0) (H.getD k .dead) x:=by rw [hk]; exact ⟨i,hi,nn i,hx⟩
  rcases hc with hc | ⟨j,e,hj,hh⟩
  ·rcases hrep.low k _ x he h0 with h | h
   ·have:=(hrep.x0 x hc).1; omega
   ·exact (hrep.x0 x hc).2 h
  ·obtain ⟨a1,a2⟩:=hsrc j e x hj hh
   exact a1 (hrep.inj _ _ _ _ x hj he a2 h0)
 exact fun i hi=>⟨key i _ hi (.inl rfl),fun x hx=>key i x hi (.inr hx)⟩
theorem Rep.gle {w0 X0 H E w} (hrep:Rep w0 X0 H E w) {k:Nat}{Q Q':Cus}(hk:H.getD k .dead = .cus Q) (hle:CusLe Q Q'):Rep w0 X0 (H.set k (.cus Q')) E w/\∀ b,Xo X0 E (H.set k (.cus Q')) b->Xo X0 E H b:=by
 have hkl:k<H.length:=Classical.byContradiction fun hc=>by rw [ae2 hc] at hk; cases hk
 have gk:(H.set k (.cus Q')).getD k .dead = .cus Q':=ab4 hkl
 have gj:∀ j,j≠k->(H.set k (.cus Q')).getD j .dead=H.getD j .dead:=fun j a2=>aa3 a2
 have hsrc:∀ j e b,E j=some e->holds e ((H.set k (.cus Q')).getD j .dead) b->holds e (H.getD j .dead) b:=by
  intro j e b hj hb
  by_cases a1:j=k
  ·subst a1
   rw [gk] at hb
   rw [hk]
   cases e with
   | blk=>exact hle.blk b hb
   | slc=>exact hb.elim
  ·rw [gj j a1] at hb; exact hb
 refine hrep.redo (Env.le_refl _) (fun j e hj=>by simpa using hrep.dom j e hj) (fun j e b hj hb=>⟨_,_,hj,hsrc j e b hj hb⟩) (fun hx j e hj=>?_) (fun j j' e e' b hj hj' hb hb'=>hrep.inj _ _ _ _ _ hj hj' (hsrc _ _ _ hj hb) (hsrc _ _ _ hj' hb'))
 have hok:=hrep.ok j e hj
 by_cases a1:j=k
 ·subst a1
  rw [hk] at hok
  rw [gk]
  cases e with
  | slc=>exact hok.elim
  | blk=>exact Q'.mono (fun _ _ _ _ h _=>h) (fun b _ hb=>hx b hb) (hle.ok _ _ _ hok)
 ·rw [gj j a1]
  exact hok.mono (fun _ _ _=>rfl) (fun b _ hb=>hx b hb) (Env.le_refl _) fun _ _=>rfl
theorem GF.same {TG TM:TypeId}{F F':GF}(hn:F'.n=F.n) (h0:F.ho=none) (h0':F'.ho=none) (hb:∀ i,i<F.n->F'.b i=F.b i) (hc:∀ i,i<F.n->F'.c i=F.c i)
  (hh:∀ i j,i<F.n->j<36->F'.hd i j=F.hd i j) (hm:∀ i,i<F.n->F'.m i=F.m i) (hp:∀ i a,i<F.n->a<F.m i->F'.p i a=F.p i a):CusLe (gfQ TG TM F) (gfQ TG TM F'):=by
 have nn:∀ i,F.ho≠some i:=fun i=>by rw [h0]; simp
 refine ⟨fun w X b0 (h:F.Ok TG TM w X b0)=>show F'.Ok TG TM w X b0 from ⟨by rw [hn]; exact h.pos,(hb 0 h.pos).trans h.head,fun i hi _=>?_,fun h' hh'=>(nomatch h0'.symm.trans hh'),fun i i' a1 a2 _ _ e=>?_,fun i i' x a1 a2 _ _ e e'=>?_,fun i i' x a1 a2 _ _ e e'=>?_⟩,fun b (h:F'.blk b)=>show F.blk b from ?_⟩
 ·rw [hn] at hi
  obtain ⟨vs,o1,o2,o3,o4,ys,o5,o6⟩:=h.one i hi (nn i)
  refine ⟨vs,by rw [hb i hi]; exact o1,o2,fun j hj=>⟨(o3 j hj).1,by rw [hh i j hi hj]; exact (o3 j hj).2⟩,o4.trans (hc i hi).symm,ys,by rw [hm i hi]; exact o5,fun a c ha hcc=>?_⟩
  rw [hm i hi] at ha
  have:=o6 a c ha hcc
  exact ⟨this.1,by show R w X E0 (F'.p i a) _; rw [hp i a hi ha]; exact this.2⟩
 ·rw [hn] at a1 a2; rw [hb i a1,hb i' a2] at e; exact h.inj i i' a1 a2 (nn _) (nn _) e
 ·rw [hn] at a1 a2; rw [hb i a1] at e; rw [hc i' a2] at e'; exact h.apart i i' x a1 a2 (nn _) (nn _) e e'
 ·rw [hn] at a1 a2; rw [hc i a1] at e; rw [hc i' a2] at e'; exact h.inj2 i i' x a1 a2 (nn _) (nn _) e e'
 ·obtain ⟨i,h1,_,h3⟩:=h
  rw [hn] at h1
  rw [hb i h1,hc i h1] at h3
  exact ⟨i,h1,nn i,h3⟩
theorem ak5 {w X E k off v} (h:R w X E (.own k off) v):∃ b,E k=some (.blk b)/\v = .pointer (some ⟨b,off,none⟩):=by
 cases h with
 | own h=>exact ⟨_,h,rfl⟩
theorem ap3 {w X E u v} (h:R w X E (.con u) v):v=u:=by
 cases h; rfl
theorem StR.mk1 {w0 X0 N H H2 E E2 w a τ k s s'} (htr:TR (X0.n0 w0) w (Xo X0 E H) E N ((k,s)::τ) a) (hr:Rep w0 X0 H2 E2 w) (hx:∀ b,Xo X0 E2 H2 b->Xo X0 E H b) (le:E.le E2)
  (h:R w (Xo X0 E2 H2) E2 s' (a.tmps.getD k undef)):StR w0 X0 N ⟨(k,s')::τ,H2⟩ a w:=by
 have h0:=htr.mono (w':=w) (fun _ _ _=>rfl) (fun b _ hb=>hx b hb) le
 refine ⟨E2,hr,h0.1,h0.2.1,fun t ht=>?_⟩
 have ht:=h0.2.2 t ht
 simp only [ac8] at ht ⊢
 by_cases hk:k=t
 ·subst hk; rw [if_pos rfl]; exact h
 ·rw [if_neg hk] at ht ⊢; exact ht
theorem StR.mk2 {w0 X0 N H H2 E E2 w a τ k s s' k2 s2 s2'} (htr:TR (X0.n0 w0) w (Xo X0 E H) E N ((k,s)::(k2,s2)::τ) a) (hr:Rep w0 X0 H2 E2 w) (hx:∀ b,Xo X0 E2 H2 b->Xo X0 E H b) (le:E.le E2)
  (h:R w (Xo X0 E2 H2) E2 s' (a.tmps.getD k undef)) (h2:R w (Xo X0 E2 H2) E2 s2' (a.tmps.getD k2 undef)):StR w0 X0 N ⟨(k,s')::(k2,s2')::τ,H2⟩ a w:=by
 have h0:=htr.mono (w':=w) (fun _ _ _=>rfl) (fun b _ hb=>hx b hb) le
 refine ⟨E2,hr,h0.1,h0.2.1,fun t ht=>?_⟩
 have ht:=h0.2.2 t ht
 simp only [ac8] at ht ⊢
 by_cases hk:k=t
 ·subst hk; rw [if_pos rfl]; exact h
 ·rw [if_neg hk] at ht ⊢
  by_cases hk2:k2=t
  ·subst hk2; rw [if_pos rfl]; exact h2
  ·rw [if_neg hk2] at ht ⊢; exact ht
end Go.Proofs.YthappngbapbkfaaGreat.Sx
