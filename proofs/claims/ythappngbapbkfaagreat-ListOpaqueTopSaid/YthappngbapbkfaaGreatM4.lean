/- Part 4 of the texts that the law's proof leans on. -/
import Derived.Test.YthappngbapbkfaaGreatM3
import Derived.Deep.LoopGhost
import Derived.LoopN
namespace Go.Proofs.YthappngbapbkfaaGreat.Sx
open Go.RowKit
def isCells:SO->Bool
 | .cells ..=>true
 | .scells ..=>true
 | .cus _=>true
 | _=>false
def ag2:SO->Option Nat
 | .row ver _ _ _ _=>some ver
 | .srow ver _ _ _=>some ver
 | .deep ver _ _ _ _ _ _ _ _ _=>some ver
 | .mpi ..=>some 0
 | .mps ..=>some 0
 | _=>none
def isMap:SO->Bool
 | .mpi ..=>true
 | .mps ..=>true
 | _=>false
theorem aM2 {so:SO}(h:isMap so=true):ag2 so=some 0:=by cases so<;>first | rfl | cases h
def allK (kk:KK) (p:List Int->Prop):Prop:=match kk with
 | .one _=>∀ x:Int,p [x]
 | .arr n _=>∀ l:List Int,l.length=n->p l
theorem allK_get {kk:KK}{p:List Int->Prop}(h:allK kk p) (l:List Int) (hl:l.length=kk.len):p l:=by
 cases kk with
 | one k=>
  match l,hl with
  | [x],_=>exact h x
 | arr n k=>exact h l hl
def SVle (H H':List SO) (s t:SV):Prop:=
 match t with
 | .any=>True
 | .int k n=>match s with | .int k' n'=>Ask (k'=k)/\Ask (n'=n) | _=>False
 | .bool b=>match s with | .bool b'=>Ask (b'=b) | .lit b'=>Ask (b'=b) | _=>False
 | .lit b=>match s with | .bool b'=>Ask (b'=b) | .lit b'=>Ask (b'=b) | _=>False
 | .str x=>match s with | .str x'=>Ask (x'=x) | _=>False
 | .nilfn=>match s with | .nilfn=>True | _=>False
 | .cap0=>match s with | .cap0=>True | _=>False
 | .fn f n g=>match s with | .fn f' n' g'=>if n'=n then Ask (f'=f)/\allN n fun i=>SVle H H' (g' i) (g i) else False | _=>False
 | .fnb f n g=>match s with | .fnb f' n' g'=>if n'=n then Ask (f'=f)/\allN n fun i=>SVle H H' (g' i) (g i) else False | _=>False
 | .agg n g=>match s with | .agg n' g'=>if n'=n then allN n fun i=>SVle H H' (g' i) (g i) else False | _=>False
 | .tup n g=>match s with | .tup n' g'=>if n'=n then allN n fun i=>SVle H H' (g' i) (g i) else False | _=>False
 | .sl len n g=>match s with
  | .sl len' n' g'=>if n'=n then Ask (len'=len)/\∀ i,i<len->allN n fun j=>SVle [] [] (g' i j) (g i j) else False
  | .slN len' n' g'=>if n'=n then Ask (len'=len)/\∀ i,i<len->allN n fun j=>SVle [] [] (g' i j) (g i j) else False
  | .cap0=>Ask (len=0)
  | .nilsl=>Ask (len=0)
  | _=>False
 | .nilsl=>match s with | .nilsl=>True | _=>False
 | .slN ..=>False
 | .ref n g=>match s with | .ref n' g'=>if n<=n' then allN n fun i=>SVle [] [] (g' i) (g i) else False | _=>False
 | .own k off=>match s with | .own k' off'=>if k'=k/\isCells (H'.getD k .dead)=true then Ask (off'=off) else False | _=>False
 | .osl k ver=>match s with | .osl k' ver'=>if k'=k/\ag2 (H.getD k .dead)=some ver'/\ag2 (H'.getD k .dead)=some ver then True else False | _=>False
 | .ownAt k ver i n off=>match s with | .ownAt k' ver' i' n' off'=>if (k'=k/\n'=n)/\ag2 (H.getD k .dead)=some ver'/\ag2 (H'.getD k .dead)=some ver then Ask (i'=i)/\Ask (off'=off) else False | _=>False
 | .con v=>match s with | .con v'=>Ask (v'=v) | _=>False
 | .part ..=>False
 | .pin k b=>match s with | .pin k' b'=>if k'=k/\isCells (H'.getD k .dead)=true then Ask (b'=b) else False | _=>False
 | .slP n g=>match s with | .slP n' g'=>if n'=n then allN n fun i=>SVle H H' (g' i) (g i) else False | _=>False
 | .refP g=>match s with | .refP g'=>SVle H H' (g' 0) (g 0) | _=>False
 | .ifc T g=>match s with | .ifc T' g'=>Ask (T'=T)/\SVle H H' (g' 0) (g 0) | _=>False
 | .omap k=>match s with | .omap k'=>if k'=k/\isMap (H.getD k .dead)=true/\isMap (H'.getD k .dead)=true then True else False | _=>False
 | .win k ver n lo len=>match s with | .win k' ver' n' lo' len'=>if (k'=k/\n'=n)/\ag2 (H.getD k .dead)=some ver'/\ag2 (H'.getD k .dead)=some ver then Ask (lo'=lo)/\Ask (len'=len) else False | _=>False
theorem ac0 {c:Prop} [Decidable c] {p:Prop}(h:if c then p else False):c/\p:=by
 by_cases hc:c
 ·rw [if_pos hc] at h; exact ⟨hc,h⟩
 ·rw [if_neg hc] at h; exact h.elim
theorem ax5 {α:Type}{c:Prop} [Decidable c] {a:Option α}{b:α}(h:(if c then a else none)=some b):c/\a=some b:=by
 by_cases hc:c
 ·rw [if_pos hc] at h; exact ⟨hc,h⟩
 ·rw [if_neg hc] at h; cases h
def Env.cut (E:Env) (H':List SO):Env:=fun k=>if k<H'.length then match E k with
 | some (.blk b)=>some (.blk b)
 | some (.slc _ v us)=>some (.slc ((ag2 (H'.getD k .dead)).getD 0) v us)
 | none=>none
 else none
theorem ae2 {H:List SO}{k:Nat}(h:¬ k<H.length):H.getD k .dead = .dead:=by rw [List.getD_eq_getElem?_getD,List.getElem?_eq_none (Nat.not_lt.1 h)]; rfl
theorem a92 {E:Env}{H':List SO}{k b:Nat}(h:E k=some (.blk b)) (hk:k<H'.length):E.cut H' k=some (.blk b):=by simp only [Env.cut,if_pos hk,h]
theorem aT9 {E:Env}{H':List SO}{k ver ver':Nat}{v:Value}{us:Nat->Option Nat}(h:E k=some (.slc ver v us)) (hv:ag2 (H'.getD k .dead)=some ver'):E.cut H' k=some (.slc ver' v us):=by
 have hk:k<H'.length:=Classical.byContradiction fun hc=>by rw [ae2 hc] at hv; cases hv
 simp only [Env.cut,if_pos hk,h,hv,Option.getD_some]
theorem E0_cut (H:List SO):E0.cut H=E0:=by
 funext k
 simp [Env.cut,E0]
theorem ag1 {w:World}{X X':Nat->Prop}(hx:∀ b,X' b->X b) {H H':List SO}:∀ {E:Env}{s t:SV}{v:Value},(∀ k ver v us,E k=some (.slc ver v us)->∀ ver',ag2 (H.getD k .dead)=some ver'->ver'=ver)->SVle H H' s t->R w X E s v->R w X' (E.cut H') t v:=by
 intro E s t
 induction t generalizing E s H H' with
 | any=>intro v _ _ _; exact .any
 | int k n=>intro v _ hl hr; cases hr<;>simp only [SVle] at hl; obtain ⟨⟨rfl⟩,⟨rfl⟩⟩:=hl; exact .int
 | bool b=>intro v _ hl hr; cases hr<;>simp only [SVle] at hl<;>(obtain ⟨rfl⟩:=hl; exact .bool)
 | lit b=>intro v _ hl hr; cases hr<;>simp only [SVle] at hl<;>(obtain ⟨rfl⟩:=hl; exact .lit)
 | str x=>intro v _ hl hr; cases hr<;>simp only [SVle] at hl; obtain ⟨rfl⟩:=hl; exact .str
 | nilfn=>intro v _ hl hr; cases hr<;>simp only [SVle] at hl; exact .nilfn
 | cap0=>intro v _ hl hr; cases hr<;>simp only [SVle] at hl; exact .cap0
 | fn f n g ih=>
  intro v hE hl hr
  cases hr<;>simp only [SVle] at hl
  rename_i hs hr
  obtain ⟨rfl,⟨rfl⟩,hl2⟩:=ac0 hl
  exact .fn hs fun i hi=>ih i hE (ae9 hl2 i hi) (hr i hi)
 | fnb f n g ih=>
  intro v hE hl hr
  cases hr<;>simp only [SVle] at hl
  rename_i hs hr
  obtain ⟨rfl,⟨rfl⟩,hl2⟩:=ac0 hl
  exact .fnb hs fun i hi=>ih i hE (ae9 hl2 i hi) (hr i hi)
 | agg n g ih=>
  intro v hE hl hr
  cases hr<;>simp only [SVle] at hl
  rename_i hs ho hr
  obtain ⟨rfl,hl2⟩:=ac0 hl
  exact .agg hs ho fun i hi=>ih i hE (ae9 hl2 i hi) (hr i hi)
 | tup n g ih=>
  intro v hE hl hr
  cases hr<;>simp only [SVle] at hl
  rename_i hs hr
  obtain ⟨rfl,hl2⟩:=ac0 hl
  exact .tup hs fun i hi=>ih i hE (ae9 hl2 i hi) (hr i hi)
 | sl len n g ih=>
  intro v hE hl hr
  have onSl:∀ {len' n':Nat}{g':Nat->Nat->SV}{v:Value},(if n'=n then Ask (len'=len)/\∀ i,i<len->allN n fun j=>SVle [] [] (g' i j) (g i j) else False)->R w X E (.sl len' n' g') v->R w X' (E.cut H') (.sl len n g) v:=by
   intro len' n' g' v hl hr
   cases hr with
   | sl0=>obtain ⟨rfl,⟨rfl⟩,hl2⟩:=ac0 hl; exact .sl0
   | sl hb hX hc hlc ho hr=>
    obtain ⟨rfl,⟨rfl⟩,hl2⟩:=ac0 hl
    refine .sl hb (fun h=>hX (hx _ h)) hc hlc ho fun i j hi hj=>?_
    have:=ih i j (E:=E0) (fun k ver v us h=>by cases h) (ae9 (hl2 i hi) j hj) (hr i j hi hj)
    rw [E0_cut] at this
    exact this
  cases s<;>simp only [SVle] at hl
  ·cases hr; obtain ⟨rfl⟩:=hl; exact .sl0
  ·exact onSl hl hr
  ·cases hr; obtain ⟨rfl⟩:=hl; exact .sl0
  ·cases hr with | slN hr=>exact onSl hl hr
 | nilsl=>intro v _ hl hr; cases hr<;>simp only [SVle] at hl; exact .nilsl
 | slN=>intro v _ hl _; simp only [SVle] at hl
 | ref n g ih=>
  intro v hE hl hr
  cases hr<;>simp only [SVle] at hl
  rename_i hb hX hc ho hr
  obtain ⟨hn,hl2⟩:=ac0 hl
  refine .ref hb (fun h=>hX (hx _ h)) (by omega) (fun j hj=>ho j (by omega)) fun j hj=>?_
  have:=ih j (E:=E0) (fun k ver v us h=>by cases h) (ae9 hl2 j hj) (hr j (by omega))
  rw [E0_cut] at this
  exact this
 | own k off=>
  intro v _ hl hr
  cases hr<;>simp only [SVle] at hl
  rename_i he
  obtain ⟨⟨rfl,hc⟩,⟨rfl⟩⟩:=ac0 hl
  exact .own (a92 he (Classical.byContradiction fun hk=>by rw [ae2 hk] at hc; cases hc))
 | osl k ver=>
  intro v hE hl hr
  cases hr<;>simp only [SVle] at hl
  ·obtain ⟨⟨rfl,h1,h2⟩,hu⟩:=ac0 hl
   rename_i hv he
   exact .osl (aT9 he h2) hv
  ·obtain ⟨⟨rfl,h1,h2⟩,hu⟩:=ac0 hl
   have:=hE _ _ _ _ (by assumption) _ h1
   omega
 | ownAt k ver i n off=>
  intro v hE hl hr
  cases hr<;>simp only [SVle] at hl
  ·obtain ⟨⟨⟨rfl,rfl⟩,h1,h2⟩,⟨rfl⟩,⟨rfl⟩⟩:=ac0 hl
   rename_i he
   exact .ownAt (aT9 he h2)
  ·obtain ⟨⟨⟨rfl,rfl⟩,h1,h2⟩,hu⟩:=ac0 hl
   have:=hE _ _ _ _ (by assumption) _ h1
   omega
 | con x=>intro v _ hl hr; cases hr<;>simp only [SVle] at hl; obtain ⟨rfl⟩:=hl; exact .con
 | part=>intro v _ hl _; simp only [SVle] at hl
 | pin k b=>
  intro v _ hl hr
  cases hr<;>simp only [SVle] at hl
  rename_i he
  obtain ⟨⟨rfl,hc⟩,⟨rfl⟩⟩:=ac0 hl
  exact .pin (a92 he (Classical.byContradiction fun hk=>by rw [ae2 hk] at hc; cases hc))
 | slP n g ih=>
  intro v hE hl hr
  cases hr<;>simp only [SVle] at hl
  rename_i hb hX hc hlc ho hr
  obtain ⟨rfl,hl2⟩:=ac0 hl
  exact .slP hb (fun h=>hX (hx _ h)) hc hlc ho fun i hi=>ih i hE (ae9 hl2 i hi) (hr i hi)
 | refP g ih=>
  intro v hE hl hr
  cases hr<;>simp only [SVle] at hl
  rename_i hb hX hc ho hr
  exact .refP hb (fun h=>hX (hx _ h)) hc ho (ih 0 hE hl hr)
 | ifc T g ih=>
  intro v hE hl hr
  cases hr<;>simp only [SVle] at hl
  rename_i ho hr
  obtain ⟨⟨rfl⟩,hl2⟩:=hl
  exact .ifc ho (ih 0 hE hl2 hr)
 | omap k=>
  intro v hE hl hr
  cases hr<;>simp only [SVle] at hl
  ·rename_i he
   obtain ⟨⟨rfl,h1,h2⟩,_⟩:=ac0 hl
   exact .omap (aT9 he (aM2 h2))
  ·obtain ⟨⟨rfl,h1,h2⟩,_⟩:=ac0 hl
   have:=hE _ _ _ _ (by assumption) _ (aM2 h1)
   omega
 | win k ver n lo len=>
  intro v hE hl hr
  cases hr<;>simp only [SVle] at hl
  ·rename_i he
   obtain ⟨⟨⟨rfl,rfl⟩,h1,h2⟩,⟨rfl⟩,⟨rfl⟩⟩:=ac0 hl
   exact .win (aT9 he h2) (by assumption) (by assumption) (by assumption)
  ·obtain ⟨⟨⟨rfl,rfl⟩,h1,h2⟩,_⟩:=ac0 hl
   have:=hE _ _ _ _ (by assumption) _ h1
   omega
def SOle (H H':List SO) (s t:SO):Prop:=
 match t with
 | .dead=>True
 | .cells n g T=>match s with | .cells n' g' T'=>if n'=n/\T'=T then allN n fun i=>SVle H H' (g' i) (g i) else False | _=>False
 | .scells n g=>match s with | .scells n' g'=>if n'=n then allN n fun i=>SVle [] [] (g' i) (g i) else False | _=>False
 | .row _ len n g T=>match s with | .row _ len' n' g' T'=>if n'=n/\T'=T then Ask (len'=len)/\∀ i,i<len->allN n fun j=>SVle [] [] (g' i j) (g i j) else False | _=>False
 | .srow _ len n g=>match s with | .srow _ len' n' g'=>if n'=n then Ask (len'=len)/\∀ i,i<len->allN n fun j=>SVle [] [] (g' i j) (g i j) else False | _=>False
 | .deep _ len n c m p g T T' ho=>match s with
  | .deep _ len' n' c' m' p' g' T1 T1' ho'=>match ho,ho' with
   | none,none=>if (n'=n/\c'=c)/\T1=T/\T1'=T' then Ask (len'=len)/\(∀ i,i<len->Ask (m' i=m i)/\∀ i',i'<m i->allN c fun j=>SVle [] [] (p' i i' j) (p i i' j))/\∀ i,i<len->allN (n-1) fun j=>SVle [] [] (g' i (j+1)) (g i (j+1)) else False
   | some q,some q'=>if (n'=n/\c'=c)/\T1=T/\T1'=T' then Ask (len'=len)/\(Ask (q'.1=q.1)/\SVle H H' q'.2 q.2)/\(∀ i,i<len->i≠q.1->Ask (m' i=m i)/\∀ i',i'<m i->allN c fun j=>SVle [] [] (p' i i' j) (p i i' j))/\∀ i,i<len->allN (n-1) fun j=>SVle [] [] (g' i (j+1)) (g i (j+1)) else False
   | _,_=>False
  | _=>False
 | .mpi kk tot has val=>match s with
  | .mpi kk' tot' has' val'=>if kk'=kk/\tot'=tot then allK kk fun l=>Ask (has' l=has l)/\((has l||tot)=true->SVle [] [] (val' l) (val l)) else False
  | _=>False
 | .mps kd has c m p T' ho=>match s with
  | .mps kd' has' c' m' p' T1 ho'=>match ho,ho' with
   | none,none=>if (kd'=kd/\c'=c)/\T1=T' then ∀ y:Int,Ask (has' y=has y)/\Ask (m' y=m y)/\∀ i,i<m y->allN c fun j=>SVle [] [] (p' y i j) (p y i j) else False
   | _,_=>False
  | _=>False
 | .cus Q=>match s with
  | .cus Q'=>CusLe Q' Q
  | _=>False
def allLe (H H':List SO):List SO->List SO->Prop
 | _,[]=>True
 | [],t::r=>SOle H H' .dead t/\allLe H H' [] r
 | s::l,t::r=>SOle H H' s t/\allLe H H' l r
def tmpLe (H H':List SO) (τ:Tmps):Tmps->Prop
 | []=>True
 | (t,s)::r=>SVle H H' (ac8 τ t) s/\tmpLe H H' τ r
def StLe (s t:St):Prop:=tmpLe s.H t.H s.τ t.τ/\allLe s.H t.H s.H t.H
theorem aK3 {H H':List SO}:∀ {l r:List SO},allLe H H' l r->∀ k,SOle H H' (l.getD k .dead) (r.getD k .dead)
 | l,[],_,k=>by simp [SOle]
 | [],t::r,h,0=>h.1
 | [],t::r,h,k+1=>by have:=aK3 h.2 k; simpa using this
 | s::l,t::r,h,0=>h.1
 | s::l,t::r,h,k+1=>by have:=aK3 h.2 k; simpa using this
theorem am3 {H H':List SO}{τ:Tmps}:∀ {r:Tmps},tmpLe H H' τ r->∀ t,SVle H H' (ac8 τ t) (ac8 r t)
 | [],_,t=>by simp [ac8,SVle]
 | (u,s)::r,h,t=>by
  simp only [ac8]
  split
  ·rename_i hu; subst hu; exact h.1
  ·exact am3 h.2 t
theorem an6 {w X E v us} {ver:Nat}{so:SO}(h:EIok w X E (.slc ver v us) so) {ver':Nat}(hr:ag2 so=some ver'):ver'=ver:=by
 cases so<;>simp only [ag2,Option.some.injEq,reduceCtorEq] at hr
 ·subst hr; exact h.1.symm
 ·subst hr; exact h.1.symm
 ·subst hr; exact h.1.symm
 ·subst hr; exact h.1.symm
 ·subst hr; exact h.1.symm
def verB (s t:SO):Bool:=match s with
 | .cells ..=>true
 | .scells ..=>true
 | .row v ..=>match ag2 t with
  | some (_+1)=>true
  | _=>Nat.beq v 0
 | .srow v ..=>match ag2 t with
  | some (_+1)=>true
  | _=>Nat.beq v 0
 | .deep v ..=>match ag2 t with
  | some (_+1)=>true
  | _=>Nat.beq v 0
 | .mpi ..=>true
 | .mps ..=>true
 | .cus _=>false
 | .dead=>false
def NmLe (m:Nat) (H H':List SO):Prop:=match Nat.ble m H'.length&&(List.range m).all fun k=>verB (H.getD k .dead) (H'.getD k .dead) with
 | true=>True
 | false=>False
def an0 (m:Nat) (H H':List SO) (p:Prop):Prop:=match m with
 | 0=>p
 | m+1=>NmLe (m+1) H H'/\p
theorem NmLe.get {m H H'} (h:NmLe m H H'):m<=H'.length/\∀ k,k<m->verB (H.getD k .dead) (H'.getD k .dead)=true:=by
 unfold NmLe at h
 split at h
 ·rename_i hb
  rw [Bool.and_eq_true] at hb
  exact ⟨Nat.le_of_ble_eq_true hb.1,fun k hk=>ad4 hb.2 hk⟩
 ·exact h.elim
theorem an0.get {m H H' p} (h:an0 m H H' p):NmLe m H H'/\p:=by
 cases m with
 | zero=>exact ⟨by simp [NmLe,Nat.ble_eq_true_of_le (Nat.zero_le _)],h⟩
 | succ m=>exact h
theorem Rep.le {w0 X0 H H' E w} (hrep:Rep w0 X0 H E w) (h2:allLe H H' H H') {m:Nat}(hnm:∀ k,X0.nm k≠none->k<m) (hm:NmLe m H H') :
  Rep w0 X0 H' (E.cut H') w/\∀ b,Xo X0 (E.cut H') H' b->Xo X0 E H b:=by
 obtain ⟨hm1,hm2⟩:=hm.get
 have hget:=aK3 h2
 have cutS:∀ k e,(E.cut H') k=some e->∃ e0,E k=some e0/\holds e (H'.getD k .dead)=holds e0 (H.getD k .dead)\/(∀ b,¬ holds e (H'.getD k .dead) b)\/(E k=some e0/\∀ b,holds e (H'.getD k .dead) b->holds e0 (H.getD k .dead) b):=by
  intro k e he
  have hg:=hget k
  simp only [Env.cut] at he
  obtain ⟨hk,he⟩:=ax5 he
  cases hE:E k with
  | none=>simp [hE] at he
  | some e0=>
   refine ⟨e0,?_⟩
   have hok:=hrep.ok k e0 hE
   rw [hE] at he
   generalize H.getD k .dead=so at hg hok
   generalize H'.getD k .dead=to at hg he
   cases e0 with
   | blk b=>
    simp only [Option.some.injEq] at he
    subst he
    cases to<;>simp only [SOle] at hg
    ·right; left; exact fun _ h=>h
    ·cases so<;>simp only at hg; left; exact ⟨rfl,rfl⟩
    ·right; left; exact fun _ h=>h
    ·cases so<;>simp only at hg; exact hok.elim
    ·cases so<;>simp only at hg; exact hok.elim
    ·cases so<;>simp only at hg; exact hok.elim
    ·cases so<;>simp only at hg; exact hok.elim
    ·cases so<;>simp only at hg; exact hok.elim
    ·cases so<;>simp only at hg; right; right; exact ⟨rfl,hg.blk⟩
   | slc ver v us=>
    simp only [Option.some.injEq] at he
    subst he
    cases to<;>simp only [SOle] at hg
    ·right; left; exact fun _ h=>h
    ·cases so<;>simp only at hg; exact hok.elim
    ·cases so<;>simp only at hg; exact hok.elim
    ·cases so<;>simp only at hg
     left; exact ⟨rfl,rfl⟩
    ·right; left; exact aA4 _ _ _ _ _
    ·cases so<;>simp only at hg
     left
     split at hg
     case h_3=>exact hg.elim
     case h_2 q q'=>
      obtain ⟨_,⟨rfl⟩,⟨⟨hq⟩,_⟩,_⟩:=ac0 hg
      refine ⟨rfl,?_⟩
      funext b
      have hh:∀ i,(hoAt (some q) i=none<->hoAt (some q') i=none):=fun i=>by
       obtain ⟨a,x⟩:=q
       obtain ⟨a',x'⟩:=q'
       have hq:a'=a:=hq
       subst hq
       unfold hoAt
       simp only
       split<;>simp
      simp only [holds,hh]
     obtain ⟨_,⟨rfl⟩,_⟩:=ac0 hg
     exact ⟨rfl,rfl⟩
    ·cases so<;>simp only at hg
     left; exact ⟨rfl,rfl⟩
    ·cases so<;>simp only at hg
     left
     split at hg
     case h_2=>exact hg.elim
     exact ⟨rfl,rfl⟩
    ·cases so<;>simp only at hg; exact hok.elim
 have cutH:∀ k e b,(E.cut H') k=some e->holds e (H'.getD k .dead) b->∃ e0,E k=some e0/\holds e0 (H.getD k .dead) b:=by
  intro k e b he hb
  obtain ⟨e0,h | h | h⟩:=cutS k e he
  ·exact ⟨e0,h.1,by rw [<-h.2]; exact hb⟩
  ·exact (h b hb).elim
  ·exact ⟨e0,h.1,h.2 b hb⟩
 have hx:∀ b,Xo X0 (E.cut H') H' b->Xo X0 E H b:=by
  rintro b (hb | ⟨k,e,he,hh⟩)
  ·exact .inl hb
  ·obtain ⟨e0,h3,h4⟩:=cutH k e b he hh
   exact .inr ⟨k,e0,h3,h4⟩
 have hver:∀ k ver v us,E k=some (.slc ver v us)->∀ ver',ag2 (H.getD k .dead)=some ver'->ver'=ver:=fun k ver v us he ver' hr=>an6 (hrep.ok k _ he) hr
 have pure0:∀ {sv tv:SV}{v:Value},SVle [] [] sv tv->R w (Xo X0 E H) E0 sv v->R w (Xo X0 (E.cut H') H') E0 tv v:=fun hl hr=>by
  have:=ag1 hx (E:=E0) (fun k ver v us h=>by cases h) hl hr
  rwa [E0_cut] at this
 refine ⟨⟨hrep.below,hrep.x0,fun k e he=>?_,fun k e he=>?_,fun k e he=>?_,fun k e b he hb=>?_,fun k k' e e' b he he' hb hb'=>?_⟩,hx⟩
 ·have hk:k<m:=hnm k (by rw [he]; simp)
  have hv:=hm2 k hk
  have hok:=hrep.nm k e he
  cases e with
  | blk b=>
   have hok':E k=some (.blk b):=hok
   exact a92 hok' (by omega)
  | slc ver0 v0 us0=>
   obtain ⟨ver,v,us,h3,h4⟩:=hok
   have hEI:=hrep.ok k _ h3
   refine ⟨(ag2 (H'.getD k .dead)).getD 0,v,us,by simp only [Env.cut,if_pos (show k<H'.length by omega),h3],fun hz=>h4 ?_⟩
   generalize H.getD k .dead=so at hEI hv
   generalize H'.getD k .dead=to at hz hv
   have fin:∀ v',verB so to=true->ag2 so=some v'->v'=0:=by
    intro v' hb hr
    cases so<;>simp only [ag2,reduceCtorEq,Option.some.injEq] at hr<;>subst hr<;>(try rfl)<;>simp only [verB] at hb
    ·split at hb
     ·rename_i q hq; rw [hq] at hz; simp at hz
     ·exact Nat.eq_of_beq_eq_true hb
    ·split at hb
     ·rename_i q hq; rw [hq] at hz; simp at hz
     ·exact Nat.eq_of_beq_eq_true hb
    ·split at hb
     ·rename_i q hq; rw [hq] at hz; simp at hz
     ·exact Nat.eq_of_beq_eq_true hb
   cases so with
   | dead=>cases hv
   | cells=>exact hEI.elim
   | scells=>exact hEI.elim
   | row ver' len n g T=>have:=hEI.1; have:=fin ver' hv rfl; omega
   | srow ver' len n g=>have:=hEI.1; have:=fin ver' hv rfl; omega
   | deep ver'=>have:=hEI.1; have:=fin ver' hv rfl; omega
   | mpi=>exact hEI.1
   | mps=>exact hEI.1
   | cus=>cases hv
 ·refine Nat.not_le.1 fun hc=>?_
  simp only [Env.cut,if_neg (Nat.not_lt.2 hc)] at he
  cases he
 ·have hg:=hget k
  simp only [Env.cut] at he
  obtain ⟨hk,he⟩:=ax5 he
  cases hE:E k with
  | none=>simp [hE] at he
  | some e0=>
   have hok:=hrep.ok k e0 hE
   rw [hE] at he
   generalize H.getD k .dead=so at hg hok
   generalize H'.getD k .dead=to at hg he
   cases e0 with
   | blk b=>
    simp only [Option.some.injEq] at he
    subst he
    cases to with
    | dead=>trivial
    | cells n g T=>
     cases so<;>simp only [SOle] at hg
     obtain ⟨⟨rfl,rfl⟩,hg2⟩:=ac0 hg
     obtain ⟨vs,g1,g2,g3⟩:=hok
     exact ⟨vs,g1,g2,fun i hi=>⟨(g3 i hi).1,ag1 hx hver (ae9 hg2 i hi) (g3 i hi).2⟩⟩
    | scells n g=>
     cases so<;>simp only [SOle] at hg
     obtain ⟨rfl,hg2⟩:=ac0 hg
     obtain ⟨vs,T,fr,g1,g2,g3,g4⟩:=hok
     exact ⟨vs,T,fr,g1,fun hc=>g2 (hx _ hc),g3,fun i hi=>⟨(g4 i hi).1,pure0 (ae9 hg2 i hi) (g4 i hi).2⟩⟩
    | row=>cases so<;>simp only [SOle] at hg; exact hok.elim
    | srow=>cases so<;>simp only [SOle] at hg; exact hok.elim
    | deep=>cases so<;>simp only [SOle] at hg; exact hok.elim
    | mpi=>cases so<;>simp only [SOle] at hg; exact hok.elim
    | mps=>cases so<;>simp only [SOle] at hg; exact hok.elim
    | cus Q=>
     cases so<;>simp only [SOle] at hg
     exact Q.mono (fun _ _ _ _ hc _=>hc) (fun b _ hb=>hx b hb) (hg.ok _ _ _ hok)
   | slc ver v us=>
    simp only [Option.some.injEq] at he
    subst he
    cases to with
    | dead=>trivial
    | cells=>cases so<;>simp only [SOle] at hg; exact hok.elim
    | scells=>cases so<;>simp only [SOle] at hg; exact hok.elim
    | row ver' len n g T=>
     cases so<;>simp only [SOle] at hg
     obtain ⟨⟨rfl,rfl⟩,⟨rfl⟩,hg2⟩:=ac0 hg
     obtain ⟨g1,xs,g2,g3⟩:=hok
     exact ⟨rfl,xs,g2,fun i j hi hj=>⟨(g3 i j hi hj).1,pure0 (ae9 (hg2 i hi) j hj) (g3 i j hi hj).2⟩⟩
    | srow ver' len n g=>
     cases so<;>simp only [SOle] at hg
     rename_i ver'' len' n' g'
     refine ⟨rfl,pure0 (sv:= .sl len' n' g') ?_ hok.2⟩
     simp only [SVle]
     exact hg
    | deep ver' len n c m p g T T' ho=>
     cases so<;>simp only [SOle] at hg
     split at hg
     case h_3=>exact hg.elim
     case h_2 q q'=>
      obtain ⟨⟨⟨rfl,rfl⟩,rfl,rfl⟩,⟨rfl⟩,⟨⟨hq⟩,hsv⟩,hg2,hg3⟩:=ac0 hg
      obtain ⟨g1,xs,d⟩:=hok
      obtain ⟨a,x⟩:=q
      obtain ⟨a',x'⟩:=q'
      have hq:a'=a:=hq
      subst hq
      have hno:∀ i,hoAt (some (a',x)) i=none->a'≠i/\hoAt (some (a',x')) i=none:=fun i hh=>by
       unfold hoAt at hh ⊢
       simp only at hh ⊢
       split at hh
       ·cases hh
       ·rename_i hne; exact ⟨hne,if_neg hne⟩
      refine ⟨rfl,xs,d.pos,d.own,fun i j hi h0 hj=>⟨(d.rest i j hi h0 hj).1,?_⟩,fun i sv hi hh=>?_,fun i hi hh=>?_,fun i b hi hh=>d.apart i b hi (hno i hh).2,fun i i' b hi hi' h1 h2=>d.inj i i' b hi hi' (hno i h1).2 (hno i' h2).2⟩
      ·have hl:=ae9 (hg3 i hi) (j-1) (by omega)
       rw [show j-1+1=j by omega] at hl
       exact pure0 hl (d.rest i j hi h0 hj).2
      ·unfold hoAt at hh
       simp only at hh
       split at hh
       case isFalse=>cases hh
       rename_i hai
       cases hh
       have ho:=d.out i x' hi (by unfold hoAt; simp only; exact if_pos hai)
       exact ⟨ho.1,ag1 hx hver hsv ho.2⟩
      ·obtain ⟨q1,ys,q2,q3⟩:=d.inn i hi (hno i hh).2
       obtain ⟨⟨hm⟩,hp⟩:=hg2 i hi (fun hc=>(hno i hh).1 hc.symm)
       rw [hm] at q2 q3
       exact ⟨q1,ys,q2,fun i' j hi' hj=>⟨(q3 i' j hi' hj).1,pure0 (ae9 (hp i' hi') j hj) (q3 i' j hi' hj).2⟩⟩
     obtain ⟨⟨⟨rfl,rfl⟩,rfl,rfl⟩,⟨rfl⟩,hg2,hg3⟩:=ac0 hg
     obtain ⟨g1,xs,d⟩:=hok
     refine ⟨rfl,xs,d.pos,d.own,fun i j hi h0 hj=>⟨(d.rest i j hi h0 hj).1,?_⟩,fun i sv hi hh=>(nomatch hh),fun i hi hh=>?_,d.apart,d.inj⟩
     ·have hl:=ae9 (hg3 i hi) (j-1) (by omega)
      rw [show j-1+1=j by omega] at hl
      exact pure0 hl (d.rest i j hi h0 hj).2
     ·obtain ⟨q1,ys,q2,q3⟩:=d.inn i hi rfl
      obtain ⟨⟨hm⟩,hp⟩:=hg2 i hi
      rw [hm] at q2 q3
      exact ⟨q1,ys,q2,fun i' j hi' hj=>⟨(q3 i' j hi' hj).1,pure0 (ae9 (hp i' hi') j hj) (q3 i' j hi' hj).2⟩⟩
    | mpi kk tot has val=>
     cases so<;>simp only [SOle] at hg
     obtain ⟨⟨rfl,rfl⟩,hg2⟩:=ac0 hg
     obtain ⟨rfl,b,es,clock,rfl,hb,hm,h4,h5⟩:=hok
     have hh:=fun l hl=>(allK_get hg2 l hl).1.out
     have hv:=fun l hl=>(allK_get hg2 l hl).2
     refine ⟨rfl,b,es,clock,rfl,hb,⟨hm.keys,hm.once,fun l hl=>by rw [<-hh l hl]; exact hm.iff l hl⟩,fun l e hl he hke=>pure0 (hv l hl ?_) (h4 l e hl he hke),fun ht l hl hz=>pure0 (hv l hl (by rw [ht]; simp)) (h5 ht l hl (by rw [hh l hl]; exact hz))⟩
     rw [<-hh l hl,(hm.iff l hl).2 ⟨e,he,hke⟩]
     rfl
    | mps kd has c m p T' ho=>
     cases so<;>simp only [SOle] at hg
     split at hg
     case h_2=>exact hg.elim
     obtain ⟨⟨⟨rfl,rfl⟩,rfl⟩,hg2⟩:=ac0 hg
     obtain ⟨rfl,b,es,clock,rfl,hb,d⟩:=hok
     have hh:=fun y=>(hg2 y).1.out
     have hm:=fun y=>(hg2 y).2.1.out
     refine ⟨rfl,b,es,clock,rfl,hb,⟨d.map.keys,d.map.once,fun l hl=>by rw [<-hh]; exact d.map.iff l hl⟩,fun y e he hke hho=>?_,fun y hz=>by rw [<-hm]; exact d.gone y (by rw [hh]; exact hz),fun h sv fl hho=>(nomatch hho),d.inj⟩
     obtain ⟨q1,ys,q2,q3⟩:=d.inn y e he hke rfl
     rw [hm] at q2 q3
     exact ⟨q1,ys,q2,fun i' j hi' hj=>⟨(q3 i' j hi' hj).1,pure0 (ae9 ((hg2 y).2.2 i' hi') j hj) (q3 i' j hi' hj).2⟩⟩
    | cus=>cases so<;>simp only [SOle] at hg; exact hok.elim
 ·obtain ⟨e0,h3,h4⟩:=cutH k e b he hb
  exact hrep.low k e0 b h3 h4
 ·obtain ⟨e0,h3,h4⟩:=cutH k e b he hb
  obtain ⟨e1,h5,h6⟩:=cutH k' e' b he' hb'
  exact hrep.inj k k' e0 e1 b h3 h5 h4 h6
theorem StR.le {w0 X0 N} {s t:St}{a:Act}{w:World}(h:StR w0 X0 N s a w) {m:Nat}(hnm:∀ k,X0.nm k≠none->k<m) (hm:NmLe m s.H t.H) (hl:StLe s t):StR w0 X0 N t a w:=by
 obtain ⟨E,hrep,htr⟩:=h
 obtain ⟨h1,h2⟩:=hl
 obtain ⟨g1,hx⟩:=hrep.le h2 hnm hm
 exact ⟨E.cut t.H,g1,htr.1,htr.2.1.mono (fun _ _ _=>rfl) (fun b _ hb=>hx b hb),fun u hu=>ag1 hx (fun k ver v us he ver' hr=>an6 (hrep.ok k _ he) hr) (am3 h1 u) (htr.2.2 u hu)⟩
end Go.Proofs.YthappngbapbkfaaGreat.Sx
namespace Go.Proofs.YthappngbapbkfaaGreat.Sx
open Go.RowKit
inductive PrepA:Type
 | tmp (t:Nat)
 | cells (k:Nat)
 | own (t:Nat) (T:TypeId) (n:Nat)
 | ownC (k off:Nat) (T:TypeId) (n:Nat)
 | shrink (t:Nat)
 | nilc (t:Nat)
 | mv (j k:Nat)
 | deepen (k c:Nat) (T':TypeId)
 | focus (k t:Nat)
 | aP7 (k:Nat)
 | focusM (k t:Nat)
 | aD4 (k:Nat)
 | aS0 (k:Nat)
 | give (k:Nat)
def ren (j k:Nat):SV->SV
 | .own i off=>match Nat.beq i k with
  | true=> .any
  | false=>match Nat.beq i j with
   | true=> .own k off
   | false=> .own i off
 | .osl i ver=>match Nat.beq i k with
  | true=> .any
  | false=>match Nat.beq i j with
   | true=> .osl k ver
   | false=> .osl i ver
 | .ownAt ..=> .any
 | .pin ..=> .any
 | .part ..=> .any
 | .omap i=>match Nat.beq i k with
  | true=> .any
  | false=>match Nat.beq i j with
   | true=> .omap k
   | false=> .omap i
 | .win i ver n lo len=>match Nat.beq i k with
  | true=> .any
  | false=>match Nat.beq i j with
   | true=> .win k ver n lo len
   | false=> .win i ver n lo len
 | .agg n g=> .agg n (fun i=>ren j k (g i))
 | .tup n g=> .tup n (fun i=>ren j k (g i))
 | .fn f n g=> .fn f n (fun i=>ren j k (g i))
 | .fnb f n g=> .fnb f n (fun i=>ren j k (g i))
 | .slP n g=> .slP n (fun i=>ren j k (g i))
 | .refP g=> .refP (fun i=>ren j k (g i))
 | .ifc T g=> .ifc T (fun i=>ren j k (g i))
 | s=>s
def renO (j k:Nat):SO->SO
 | .cells n g T=> .cells n (fun i=>ren j k (g i)) T
 | .deep ver len n c m p g T T' ho=> .deep ver len n c m p g T T' (hoMap (ren j k) ho)
 | .mps kd has c m p T' ho=> .mps kd has c m p T' (aI0 (ren j k) ho)
 | s=>s
def renE (j k:Nat) (E:Env):Env:=fun i=>if i=k then E j else if i=j then none else E i
def renH (j k:Nat) (H:List SO):List SO:=((H.map (renO j k)).set k (renO j k (H.getD j .dead))).set j .dead
def ag9 (n:Nat) (T:TypeId):SO:= .row 0 0 n (fun _ _=> .any) T
def updN (m:Nat->Nat) (h x i:Nat):Nat:=cond (decide (i=h)) x (m i)
def updP (p:Nat->Nat->Nat->SV) (h:Nat) (q:Nat->Nat->SV) (i a b:Nat):SV:=selS (decide (i=h)) (q a b) (p i a b)
def updI (m:Int->Nat) (h:Int) (x:Nat) (y:Int):Nat:=cond (decide (y=h)) x (m y)
def aP4 (p:Int->Nat->Nat->SV) (h:Int) (q:Nat->Nat->SV) (y:Int) (a b:Nat):SV:=selS (decide (y=h)) (q a b) (p y a b)
def am8 (m N:Nat) (s:St):PrepA->Option St
 | .tmp t=>match as7 s.H (aH0 s.H 6 (ac8 s.τ t)) with
  | some l=>match pur (ad9 s.H l) 6 (ac8 s.τ t) with
   | some v=>some ⟨(t,v)::s.τ,ad9 s.H l⟩
   | none=>none
  | none=>none
 | .cells k=>match s.H.getD k .dead with
  | .cells n g _=>match as7 s.H ((List.range n).flatMap fun i=>aH0 s.H 6 (g i)) with
   | some l=>match (ad9 s.H l).getD k .dead with
    | .cells n g T=>if (List.range n).all (fun i=>(pur (ad9 s.H l) 6 (g i)).isSome)=true then
      some ⟨s.τ,(ad9 s.H l).set k (.cells n (fun i=>(pur (ad9 s.H l) 6 (g i)).getD .any) T)⟩ else none
    | _=>none
   | none=>none
  | _=>none
 | .own t T n=>match ac8 s.τ t with
  | .cap0=>some ⟨(t,.osl s.H.length 0)::s.τ,s.H++[ag9 n T]⟩
  | _=>none
 | .ownC k off T n=>match s.H.getD k .dead with
  | .cells m g T'=>match g off with
   | .cap0=>if off<m then some ⟨s.τ,(s.H++[ag9 n T]).set k (.cells m (updF g off 1 (fun _=> .osl s.H.length 0)) T')⟩ else none
   | _=>none
  | _=>none
 | .shrink t=>match Nat.blt t N with
  | true=>match ac8 s.τ t with
   | .win k ver n lo len=>match lo with
    | 0=>match s.H.getD k .dead with
     | .row ver' _ m g T=>if ver=ver'/\n=m then some ⟨(t,.osl k (ver+1))::s.τ,s.H.set k (.row (ver+1) len m g T)⟩ else none
     | _=>none
    | _=>none
   | _=>none
  | false=>none
 | .nilc _=>none
 | .mv j k=>match (Nat.ble m j&&Nat.ble m k)&&(Nat.blt k s.H.length&&!Nat.beq j k) with
  | true=>some ⟨s.τ.map (fun p=>(p.1,ren j k p.2)),renH j k s.H⟩
  | false=>none
 | .deepen k c T'=>match s.H.getD k .dead with
  | .row ver len n _ T=>match len,n with
   | 0,n+1=>some ⟨s.τ,s.H.set k (.deep ver 0 (n+1) c (fun _=>0) (fun _ _ _=> .any) (fun _ _=> .any) T T' none)⟩
   | _,_=>none
  | _=>none
 | .focus k t=>match ac8 s.τ t with
  | .int _ i=>match s.H.getD k .dead with
   | .deep ver len n c m p g T T' ho=>match ho with
    | none=>some ⟨s.τ,s.H.set k (.deep ver len n c m p g T T' (some (i.toNat,.osl s.H.length 0)))++[.row 0 (m i.toNat) c (p i.toNat) T']⟩
    | some _=>none
   | _=>none
  | _=>none
 | .aP7 k=>match s.H.getD k .dead with
  | .deep ver len n c m p g T T' ho=>match ho with
   | some (h,sv)=>match sv with
    | .osl K ver'=>match s.H.getD K .dead with
     | .row ver2 len2 c2 g2 T2=>if ((ver'=ver2/\c2=c)/\T2=T')/\K≠k then some ⟨s.τ,(s.H.set K .dead).set k (.deep ver len n c (updN m h len2) (updP p h g2) g T T' none)⟩ else none
     | _=>none
    | .cap0=>some ⟨s.τ,s.H.set k (.deep ver len n c (updN m h 0) p g T T' none)⟩
    | _=>none
   | none=>none
  | _=>none
 | .focusM k t=>match ac8 s.τ t with
  | .int _ i=>match s.H.getD k .dead with
   | .mps kd has c m p T' ho=>match ho with
    | none=>some ⟨s.τ,s.H.set k (.mps kd has c m p T' (some (i,.osl s.H.length 0,false)))++[.row 0 (m i) c (p i) T']⟩
    | some _=>none
   | _=>none
  | _=>none
 | .aD4 k=>match s.H.getD k .dead with
  | .mps kd has c m p T' ho=>match ho with
   | some q=>match q.2.1 with
    | .osl K ver'=>match s.H.getD K .dead with
     | .row ver2 len2 c2 g2 T2=>if ((ver'=ver2/\c2=c)/\T2=T')/\K≠k/\q.2.2=true then some ⟨s.τ,(s.H.set K .dead).set k (.mps kd has c (updI m q.1 len2) (aP4 p q.1 g2) T' none)⟩ else none
     | _=>none
    | _=>none
   | none=>none
  | _=>none
 | .aS0 k=>match s.H.getD k .dead with
  | .mps kd has c m p T' ho=>match ho with
   | none=>some ⟨s.τ,s.H.set k (.mpi (.one kd) true (fun l=>has (l.getD 0 0)) (fun l=> .sl (m (l.getD 0 0)) c (p (l.getD 0 0))))⟩
   | some _=>none
  | _=>none
 | .give k=>match frzO s.H k with
  | some so=>some ⟨s.τ,s.H.set k so⟩
  | none=>none
def nilAlt (N:Nat) (s:St) (t:Nat):Option (Nat×St×St):=match Nat.blt t N with
 | true=>match ac8 s.τ t with
  | .sl len n g=>some (len,⟨(t,.nilsl)::s.τ,s.H⟩,⟨(t,.slN len n g)::s.τ,s.H⟩)
  | _=>none
 | false=>none
def aq6 (m N:Nat) (s:St):List PrepA->Option St
 | []=>some s
 | p::r=>match am8 m N s p with
  | some s'=>aq6 m N s' r
  | none=>none
theorem Rep.known {w0 X0 H E w} (h:Rep w0 X0 H E w):E H.length=none:=by
 cases hc:E H.length with
 | none=>rfl
 | some e=>have:=h.dom _ _ hc; omega
theorem Rep.empty {w0 X0 H E w} (h:Rep w0 X0 H E w) (n:Nat) (T:TypeId) (a:Option Addr) :
  Rep w0 X0 (H++[ag9 n T]) (E.put H.length (.slc 0 (.slice a 0 0) (fun _=>none))) w/\ab8 (Xo X0 E H) (Xo X0 (E.put H.length (.slc 0 (.slice a 0 0) (fun _=>none))) (H++[ag9 n T])) w/\E.le (E.put H.length (.slc 0 (.slice a 0 0) (fun _=>none))):=by
 have hget:∀ k,k<H.length->(H++[ag9 n T]).getD k .dead=H.getD k .dead:=fun k hk=>ab6 hk
 have hnew:(H++[ag9 n T]).getD H.length .dead=ag9 n T:=by
  rw [List.getD_eq_getElem?_getD,List.getElem?_append_right (Nat.le_refl _)]; simp
 have hxo:Xo X0 E (H++[ag9 n T])=Xo X0 E H:=ap2 fun k e hke=>hget k (h.dom k e hke)
 have hh:∀ b,¬ holds (.slc 0 (.slice a 0 0) (fun _=>none)) (ag9 n T) b:=fun b hb=>by cases a<;>simp [ag9,holds,ad1] at hb
 obtain ⟨g1,g2⟩:=(h.ext (by simp) hget).new (k:=H.length) (e:= .slc 0 (.slice a 0 0) (fun _=>none)) h.known (by simp) (Below.refl _ _) (fun b hb=>by rw [hnew] at hb; exact (hh b hb).elim)
  (by rw [hnew]; exact ⟨rfl,[],.inl ⟨_,rfl,rfl,rfl⟩,fun i j hi=>absurd hi (Nat.not_lt_zero _)⟩)
 rw [hxo] at g2
 exact ⟨g1,g2,Env.ax4 h.known⟩
theorem Rep.recell {w0 X0 H E w} (h:Rep w0 X0 H E w) {k n:Nat}{g g':Nat->SV}{T:TypeId}(hk:H.getD k .dead = .cells n g T)
  (hr:∀ i v,i<n->R w (Xo X0 E H) E (g i) v->R w (Xo X0 E H) E (g' i) v):Rep w0 X0 (H.set k (.cells n g' T)) E w/\ab8 (Xo X0 E H) (Xo X0 E (H.set k (.cells n g' T))) w:=by
 cases he:E k with
 | none=>
  have hh:∀ j e,E j=some e->(H.set k (.cells n g' T)).getD j .dead=H.getD j .dead:=fun j e hj=>aa3 (fun hc=>by subst hc; rw [he] at hj; cases hj)
  refine ⟨h.ext' (by simp) hh,?_⟩
  rw [ap2 hh]
  exact ab8.refl _ _
 | some e=>
  have hok:=h.ok k e he
  rw [hk] at hok
  cases e with
  | slc=>exact hok.elim
  | blk b=>
   obtain ⟨vs,h1,h2,h3⟩:=hok
   have hput:E.put k (.blk b)=E:=Env.af6 he
   have hu:=h.upd (w':=w) (e':= .blk b) (so':= .cells n g' T) he (by rw [hput]; exact Env.le_refl _) (fun _ _ _=>rfl) rfl rfl rfl (Nat.le_refl _) (fun b' hb'=> .inl (by rw [hk]; exact hb'))
    (fun hke hwi _=>by rw [hput] at *; exact ⟨vs,h1,h2,fun i hi=>⟨(h3 i hi).1,(hr i _ hi (h3 i hi).2).mono hke hwi (Env.le_refl _)⟩⟩)
   rw [hput] at hu
   exact ⟨hu.1,hu.2.2⟩
theorem aU0 {w X E v} (h:R w X E .cap0 v):∃ a,v = .slice a 0 0:=by cases h; exact ⟨_,rfl⟩
theorem R_ren {w:World}{X X':Nat->Prop}(hx:∀ b,X' b->X b) {j k:Nat}(_:j≠k) {E:Env}{s:SV}{v:Value}(h:R w X E s v):R w X' (renE j k E) (ren j k s) v:=by
 have ek:∀ {i},Nat.beq i j=true->i=j:=fun h=>Nat.eq_of_beq_eq_true h
 have e1:renE j k E k=E j:=by unfold renE; rw [if_pos rfl]
 have e2:∀ {i},Nat.beq i k=false->Nat.beq i j=false->renE j k E i=E i:=fun h1 h2=>by
  unfold renE
  rw [if_neg (Nat.ne_of_beq_eq_false h1),if_neg (Nat.ne_of_beq_eq_false h2)]
 induction s generalizing v with
 | any=>exact .any
 | int=>cases h; exact .int
 | bool=>cases h; exact .bool
 | lit=>cases h; exact .lit
 | str=>cases h; exact .str
 | nilfn=>cases h; exact .nilfn
 | cap0=>cases h; exact .cap0
 | fn f n g ih=>cases h with | fn hs hr=>exact .fn hs fun i hi=>ih i (hr i hi)
 | fnb f n g ih=>cases h with | fnb hs hr=>exact .fnb hs fun i hi=>ih i (hr i hi)
 | agg n g ih=>cases h with | agg hs ho hr=>exact .agg hs ho fun i hi=>ih i (hr i hi)
 | tup n g ih=>cases h with | tup hs hr=>exact .tup hs fun i hi=>ih i (hr i hi)
 | sl len n g ih=>
  cases h with
  | sl0=>exact .sl0
  | sl hb hX hc hl ho hr=>exact .sl hb (fun hc=>hX (hx _ hc)) hc hl ho fun i j hi hj=>(hr i j hi hj).mono (fun _ _ _=>rfl) (fun b _ hb=>hx b hb) (Env.le_refl _)
 | ref n g ih=>cases h with | ref hb hX hc ho hr=>exact .ref hb (fun hc=>hX (hx _ hc)) hc ho fun j hj=>(hr j hj).mono (fun _ _ _=>rfl) (fun b _ hb=>hx b hb) (Env.le_refl _)
 | own i off=>
  cases h with
  | own he=>
   simp only [ren]
   split
   ·exact .any
   ·rename_i h1
    split
    ·rename_i h2; exact .own (by rw [e1,<-ek h2]; exact he)
    ·rename_i h2; exact .own (by rw [e2 h1 h2]; exact he)
 | osl i ver=>
  simp only [ren]
  split
  ·exact .any
  ·rename_i h1
   cases h with
   | osl he hs=>
    split
    ·rename_i h2; exact .osl (by rw [e1,<-ek h2]; exact he) hs
    ·rename_i h2; exact .osl (by rw [e2 h1 h2]; exact he) hs
   | oslOld he hl hs=>
    split
    ·rename_i h2; exact .oslOld (by rw [e1,<-ek h2]; exact he) hl hs
    ·rename_i h2; exact .oslOld (by rw [e2 h1 h2]; exact he) hl hs
 | ownAt=>exact .any
 | pin=>exact .any
 | part=>exact .any
 | con=>cases h; exact .con
 | slP n g ih=>cases h with | slP hb hX hc hl ho hr=>exact .slP hb (fun hc=>hX (hx _ hc)) hc hl ho fun i hi=>ih i (hr i hi)
 | refP g ih=>cases h with | refP hb hX hc ho hr=>exact .refP hb (fun hc=>hX (hx _ hc)) hc ho (ih 0 hr)
 | ifc T g ih=>cases h with | ifc ho hr=>exact .ifc ho (ih 0 hr)
 | omap i=>
  simp only [ren]
  split
  ·exact .any
  ·rename_i h1
   cases h with
   | omap he=>
    split
    ·rename_i h2; exact .omap (by rw [e1,<-ek h2]; exact he)
    ·rename_i h2; exact .omap (by rw [e2 h1 h2]; exact he)
   | omapOld he hl=>
    split
    ·rename_i h2; exact .omapOld (by rw [e1,<-ek h2]; exact he) hl
    ·rename_i h2; exact .omapOld (by rw [e2 h1 h2]; exact he) hl
 | nilsl=>cases h; exact .nilsl
 | slN len n g=>
  cases h with
  | slN hr=>
   refine .slN ?_
   cases hr with
   | sl0=>exact .sl0
   | sl hb hX hc hl ho hr=>exact .sl hb (fun hc=>hX (hx _ hc)) hc hl ho fun i j hi hj=>(hr i j hi hj).mono (fun _ _ _=>rfl) (fun b _ hb=>hx b hb) (Env.le_refl _)
 | win i ver n lo len=>
  simp only [ren]
  split
  ·exact .any
  ·rename_i h1
   cases h with
   | win he hl ha h0=>
    split
    ·rename_i h2; exact .win (by rw [e1,<-ek h2]; exact he) hl ha h0
    ·rename_i h2; exact .win (by rw [e2 h1 h2]; exact he) hl ha h0
   | winOld he hl hs=>
    split
    ·rename_i h2; exact .winOld (by rw [e1,<-ek h2]; exact he) hl hs
    ·rename_i h2; exact .winOld (by rw [e2 h1 h2]; exact he) hl hs
theorem ax7 (e:EI) (j k:Nat) (so:SO):holds e (renO j k so)=holds e so:=by
 cases so<;>cases e<;>first | rfl | skip
 ·funext b
  simp only [renO,holds,af8]
 ·funext b
  simp only [renO,holds,ae8]
theorem EIok_ren {w X X' E} (hx:∀ b,X' b->X b) {j k:Nat}(hjk:j≠k) {e:EI}{so:SO}(h:EIok w X E e so):EIok w X' (renE j k E) e (renO j k so):=by
 have weak:∀ {s:SV}{v:Value},R w X E0 s v->R w X' E0 s v:=fun h=>h.mono (fun _ _ _=>rfl) (fun b _ hb=>hx b hb) (Env.le_refl _)
 cases e with
 | blk b=>
  cases so with
  | dead=>trivial
  | cells n g T=>
   obtain ⟨vs,h1,h2,h3⟩:=h
   exact ⟨vs,h1,h2,fun i hi=>⟨(h3 i hi).1,R_ren hx hjk (h3 i hi).2⟩⟩
  | scells n g=>
   obtain ⟨vs,T,fr,h1,h2,h3,h4⟩:=h
   exact ⟨vs,T,fr,h1,fun hc=>h2 (hx _ hc),h3,fun i hi=>⟨(h4 i hi).1,weak (h4 i hi).2⟩⟩
  | row=>exact h
  | srow=>exact h
  | deep=>exact h
  | mpi=>exact h
  | mps=>exact h
  | cus Q=>exact Q.mono (fun _ _ _ _ hc _=>hc) (fun b _ hb=>hx b hb) h
 | slc ver v us=>
  cases so with
  | dead=>trivial
  | cells=>exact h
  | scells=>exact h
  | mpi kk tot has val=>
   obtain ⟨h1,b,es,clock,rfl,h2,h3,h4,h5⟩:=h
   exact ⟨h1,b,es,clock,rfl,h2,h3,fun l e hl he hk=>weak (h4 l e hl he hk),fun ht l hl hh=>weak (h5 ht l hl hh)⟩
  | mps kd has c m p T' ho=>
   obtain ⟨h1,b,es,clock,rfl,h2,d⟩:=h
   refine ⟨h1,b,es,clock,rfl,h2,d.map,fun y e he hke hh=>?_,d.gone,fun hy sv fl hho=>?_,fun y y' b q1 q2=>d.inj y y' b (by rwa [ae8] at q1) (by rwa [ae8] at q2)⟩
   ·rw [ae8] at hh
    obtain ⟨q1,ys,q2,q3⟩:=d.inn y e he hke hh
    exact ⟨q1,ys,q2,fun i' j hi' hj=>⟨(q3 i' j hi' hj).1,weak (q3 i' j hi' hj).2⟩⟩
   ·cases ho with
    | none=>cases hho
    | some q=>
     cases hho
     obtain ⟨g1,g2,g3⟩:=d.out q.1 q.2.1 q.2.2 rfl
     exact ⟨g1,fun e he hke=>R_ren hx hjk (g2 e he hke),fun hz=>R_ren hx hjk (g3 hz)⟩
  | cus=>exact h
  | row=>
   obtain ⟨h1,xs,h2,h3⟩:=h
   exact ⟨h1,xs,h2,fun i j hi hj=>⟨(h3 i j hi hj).1,weak (h3 i j hi hj).2⟩⟩
  | srow=>exact ⟨h.1,weak h.2⟩
  | deep ver' len n c m p g T T' ho=>
   obtain ⟨h1,xs,d⟩:=h
   refine ⟨h1,xs,d.map hx (fun i hi=>by rwa [af8] at hi) (fun i sv' hi=>?_)⟩
   rw [ax9] at hi
   cases hh:hoAt ho i with
   | none=>rw [hh] at hi; cases hi
   | some sv=>
    rw [hh] at hi
    cases hi
    exact ⟨sv,rfl,fun u hu=>R_ren hx hjk hu⟩
theorem Rep.ren {w0 X0 H E w} (h:Rep w0 X0 H E w) {m j k:Nat}(hnm:∀ i,X0.nm i≠none->i<m) (hj:m<=j) (hk:m<=k) (hkl:k<H.length) (hjk:j≠k) :
  Rep w0 X0 (renH j k H) (renE j k E) w/\∀ b,Xo X0 (renE j k E) (renH j k H) b->Xo X0 E H b:=by
 have hget:∀ i e,renE j k E i=some e->∃ i0,E i0=some e/\(renH j k H).getD i .dead=renO j k (H.getD i0 .dead)/\(i=k/\i0=j\/i≠k/\i≠j/\i0=i):=by
  intro i e he
  unfold renE at he
  split at he
  ·rename_i hi
   subst hi
   refine ⟨j,he,?_,.inl ⟨rfl,rfl⟩⟩
   unfold renH
   rw [aa3 (Ne.symm hjk),ab4 (by rw [List.length_map]; exact hkl)]
  ·rename_i hi
   split at he
   ·cases he
   ·rename_i hij
    refine ⟨i,he,?_,.inr ⟨hi,hij,rfl⟩⟩
    unfold renH
    rw [aa3 hij,aa3 hi,List.getD_eq_getElem?_getD,List.getElem?_map,List.getD_eq_getElem?_getD]
    cases H[i]?<;>rfl
 have hx:∀ b,Xo X0 (renE j k E) (renH j k H) b->Xo X0 E H b:=by
  rintro b (hb | ⟨i,e,he,hh⟩)
  ·exact .inl hb
  ·obtain ⟨i0,h1,h2,_⟩:=hget i e he
   rw [h2,ax7] at hh
   exact .inr ⟨i0,e,h1,hh⟩
 refine ⟨⟨h.below,h.x0,fun i e he=>?_,fun i e he=>?_,fun i e he=>?_,fun i e b he hb=>?_,fun i i' e e' b he he' hb hb'=>?_⟩,hx⟩
 ·have hi:=hnm i (by rw [he]; exact fun hc=>by cases hc)
  have:renE j k E i=E i:=by
   unfold renE
   rw [if_neg (by omega),if_neg (by omega)]
  rw [this]
  exact h.nm i e he
 ·unfold renH
  rw [List.length_set,List.length_set,List.length_map]
  obtain ⟨i0,h1,_,h3⟩:=hget i e he
  have:=h.dom i0 e h1
  rcases h3 with ⟨rfl,_⟩ | ⟨_,_,rfl⟩
  ·exact hkl
  ·exact this
 ·obtain ⟨i0,h1,h2,_⟩:=hget i e he
  rw [h2]
  exact EIok_ren hx hjk (h.ok i0 e h1)
 ·obtain ⟨i0,h1,h2,_⟩:=hget i e he
  rw [h2,ax7] at hb
  exact h.low i0 e b h1 hb
 ·obtain ⟨i0,h1,h2,h3⟩:=hget i e he
  obtain ⟨i1,g1,g2,g3⟩:=hget i' e' he'
  rw [h2,ax7] at hb
  rw [g2,ax7] at hb'
  have:=h.inj i0 i1 e e' b h1 g1 hb hb'
  omega
theorem aX3 {f:SV->SV}(hf:f .any = .any):∀ (τ:Tmps) (t:Nat),ac8 (τ.map (fun p=>(p.1,f p.2))) t=f (ac8 τ t)
 | [],t=>hf.symm
 | (u,s)::r,t=>by
  simp only [List.map_cons,ac8]
  split
  ·rfl
  ·exact aX3 hf r t
theorem Rep.redo {w0 X0 H E w} (h:Rep w0 X0 H E w) {H2:List SO}{E2:Env}(le:E.le E2) (dom:∀ k e,E2 k=some e->k<H2.length)
  (src:∀ k e b,E2 k=some e->holds e (H2.getD k .dead) b->∃ k0 e0,E k0=some e0/\holds e0 (H.getD k0 .dead) b)
  (ok:(∀ b,Xo X0 E2 H2 b->Xo X0 E H b)->∀ k e,E2 k=some e->EIok w (Xo X0 E2 H2) E2 e (H2.getD k .dead))
  (inj:∀ k k' e e' b,E2 k=some e->E2 k'=some e'->holds e (H2.getD k .dead) b->holds e' (H2.getD k' .dead) b->k=k'):Rep w0 X0 H2 E2 w/\∀ b,Xo X0 E2 H2 b->Xo X0 E H b:=by
 have hx:∀ b,Xo X0 E2 H2 b->Xo X0 E H b:=by
  rintro b (hb | ⟨k,e,he,hh⟩)
  ·exact .inl hb
  ·obtain ⟨k0,e0,h1,h2⟩:=src k e b he hh
   exact .inr ⟨k0,e0,h1,h2⟩
 refine ⟨⟨h.below,h.x0,fun k e hk=>(h.nm k e hk).le le,dom,ok hx,fun k e b he hb=>?_,inj⟩,hx⟩
 obtain ⟨k0,e0,h1,h2⟩:=src k e b he hb
 exact h.low k0 e0 b h1 h2
theorem hoAt_some {h i:Nat}{sv sv':SV}(hh:hoAt (some (h,sv)) i=some sv'):h=i/\sv=sv':=by
 simp only [hoAt] at hh
 obtain ⟨h1,h2⟩:=aa0 hh
 exact ⟨h1,h2⟩
theorem hoAt_ne {h i:Nat}{sv:SV}(hh:hoAt (some (h,sv)) i=none):h≠i:=fun hc=>by
 simp only [hoAt] at hh
 rw [if_pos hc] at hh
 cases hh
theorem av6 {h i:Nat}{sv:SV}(hne:h≠i):hoAt (some (h,sv)) i=none:=by
 simp only [hoAt]
 rw [if_neg hne]
theorem ah4.slice {w T n v len xs} (h:ah4 w T n v len xs):∃ a a2 a3,v = .slice a a2 a3:=by
 rcases h with ⟨a,e1,_⟩ | ⟨b,cap,cur,e1,_⟩<;>exact ⟨_,_,_,e1⟩
theorem ah8 {w:World}{X X':Nat->Prop}(hx:∀ b,X' b->X b) {s:SV}{v:Value}(h:R w X E0 s v):R w X' E0 s v:=h.mono (fun _ _ _=>rfl) (fun b _ hb=>hx b hb) (Env.le_refl _)
theorem aq9.weak {w X X' c T' u m p} (hx:∀ b,X' b->X b) (h:aq9 w X c T' u m p):aq9 w X' c T' u m p:=by
 obtain ⟨ys,q2,q3⟩:=h
 exact ⟨ys,q2,fun i' j hi' hj=>⟨(q3 i' j hi' hj).1,ah8 hx (q3 i' j hi' hj).2⟩⟩
theorem DeepOK.hole {w X X' E E' v us len n c m p g T T' xs} (d:DeepOK w X E v us len n c m p g T T' none xs) (hx:∀ b,X' b->X b) {i:Nat}{sv:SV}(hr:i<len->R w X' E' sv (xs.getD (i*n) undef)) :
  DeepOK w X' E' v us len n c m p g T T' (some (i,sv)) xs:=by
 refine ⟨d.pos,d.own,fun i j hi h0 hj=>⟨(d.rest i j hi h0 hj).1,ah8 hx (d.rest i j hi h0 hj).2⟩,fun i' sv' hi hh=>?_,fun i' hi hh=>⟨(d.inn i' hi rfl).1,(d.inn i' hi rfl).2.weak hx⟩,fun i' b hi _=>d.apart i' b hi rfl,fun i1 i2 b h1 h2 _ _=>d.inj i1 i2 b h1 h2 rfl rfl⟩
 obtain ⟨rfl,rfl⟩:=hoAt_some hh
 refine ⟨?_,hr hi⟩
 obtain ⟨_,ys,q2,_⟩:=d.inn i hi rfl
 obtain ⟨a,a2,a3,e⟩:=q2.slice
 rw [e]; rfl
theorem Rep.focus {w0 X0 H E w} (hrep:Rep w0 X0 H E w) {k ver len n c:Nat}{m:Nat->Nat}{p:Nat->Nat->Nat->SV}{g:Nat->Nat->SV}{T T':TypeId}(hk:H.getD k .dead = .deep ver len n c m p g T T' none) (i:Nat) :
  ∃ E2,E.le E2/\Rep w0 X0 (H.set k (.deep ver len n c m p g T T' (some (i,.osl H.length 0)))++[.row 0 (m i) c (p i) T']) E2 w/\∀ b,Xo X0 E2 (H.set k (.deep ver len n c m p g T T' (some (i,.osl H.length 0)))++[.row 0 (m i) c (p i) T']) b->Xo X0 E H b:=by
 have hkl:k<H.length:=Classical.byContradiction fun hc=>by rw [ae2 hc] at hk; cases hk
 have hnew:E H.length=none:=hrep.known
 generalize hH2:H.set k (.deep ver len n c m p g T T' (some (i,.osl H.length 0)))++[.row 0 (m i) c (p i) T']=H2
 have hlen:H2.length=H.length+1:=by rw [<-hH2]; simp
 have gk:H2.getD k .dead = .deep ver len n c m p g T T' (some (i,.osl H.length 0)):=by
  rw [<-hH2,ab6 (by simpa using hkl),ab4 hkl]
 have gK:H2.getD H.length .dead = .row 0 (m i) c (p i) T':=by
  rw [<-hH2,List.getD_eq_getElem?_getD,List.getElem?_append_right (by simp)]; simp
 have gj:∀ j,j≠k->j≠H.length->H2.getD j .dead=H.getD j .dead:=fun j h1 h2=>by
  by_cases hj:j<H.length
  ·rw [<-hH2,ab6 (by simpa using hj),aa3 h1]
  ·rw [ae2 (by omega),ae2 hj]
 by_cases hin:i<len/\∃ e,E k=some e
 ·obtain ⟨hi,e,he⟩:=hin
  have hok:=hrep.ok k e he
  rw [hk] at hok
  cases e with
  | blk=>exact hok.elim
  | slc ver' v us=>
   obtain ⟨rfl,xs,d⟩:=hok
   obtain ⟨q1,ys,q2,q3⟩:=d.inn i hi rfl
   have hle:=Env.ax4 (e:= .slc 0 (xs.getD (i*n) undef) (fun _=>none)) hnew
   have hsrc:∀ j e b,(E.put H.length (.slc 0 (xs.getD (i*n) undef) (fun _=>none))) j=some e->holds e (H2.getD j .dead) b->(j=k/\(ad1 v=some b\/∃ i',i'<len/\i'≠i/\us i'=some b))\/(j=H.length/\us i=some b)\/(j≠k/\j≠H.length/\E j=some e/\holds e (H.getD j .dead) b):=by
    intro j e b hj hb
    by_cases h1:j=H.length
    ·subst h1
     rw [Env.ab1] at hj
     cases hj
     rw [gK] at hb
     exact .inr (.inl ⟨rfl,q1▸hb⟩)
    ·rw [Env.ad0 h1] at hj
     by_cases h2:j=k
     ·subst h2
      rw [he] at hj
      cases hj
      rw [gk] at hb
      rcases hb with hb | ⟨i',hi',hh,hb⟩
      ·exact .inl ⟨rfl,.inl hb⟩
      ·exact .inl ⟨rfl,.inr ⟨i',hi',Ne.symm (hoAt_ne hh),hb⟩⟩
     ·rw [gj j h2 h1] at hb
      exact .inr (.inr ⟨h2,h1,hj,hb⟩)
   have hk2:∀ b,(ad1 v=some b\/∃ i',i'<len/\us i'=some b)->holds (.slc ver' v us) (H.getD k .dead) b:=fun b hb=>by
    rw [hk]
    rcases hb with hb | ⟨i',h1,h2⟩
    ·exact .inl hb
    ·exact .inr ⟨i',h1,rfl,h2⟩
   obtain ⟨g1,g2⟩:=hrep.redo (H2:=H2) hle (fun j e hj=>by
     by_cases h1:j=H.length
     ·omega
     ·rw [Env.ad0 h1] at hj; have:=hrep.dom j e hj; omega) (fun j e b hj hb=>by
     rcases hsrc j e b hj hb with ⟨rfl,h1⟩ | ⟨rfl,h1⟩ | ⟨_,_,h1,h2⟩
     ·exact ⟨j,_,he,hk2 b (h1.elim .inl fun ⟨i',a1,_,a2⟩=> .inr ⟨i',a1,a2⟩)⟩
     ·exact ⟨k,_,he,hk2 b (.inr ⟨i,hi,h1⟩)⟩
     ·exact ⟨j,e,h1,h2⟩) (fun hx j e hj=>by
     by_cases h1:j=H.length
     ·subst h1
      rw [Env.ab1] at hj
      cases hj
      rw [gK]
      exact ⟨rfl,ys,q2,fun i' j' a1 a2=>⟨(q3 i' j' a1 a2).1,ah8 hx (q3 i' j' a1 a2).2⟩⟩
     ·rw [Env.ad0 h1] at hj
      by_cases h2:j=k
      ·subst h2
       rw [he] at hj
       cases hj
       rw [gk]
       exact ⟨rfl,xs,d.hole hx fun _=> .osl (Env.ab1 _ _ _) q2.slice⟩
      ·rw [gj j h2 h1]
       exact (hrep.ok j e hj).mono (fun _ _ _=>rfl) (fun b _ hb=>hx b hb) hle fun _ _=>rfl) (fun j j' e e' b hj hj' hb hb'=>by
     have other:∀ {j e},j≠k->E j=some e->holds e (H.getD j .dead) b->(ad1 v=some b\/∃ i',i'<len/\us i'=some b)->False:=fun h1 h2 h3 h4=>h1 (hrep.inj _ _ _ _ b h2 he h3 (hk2 b h4))
     have mix:(ad1 v=some b\/∃ i',i'<len/\i'≠i/\us i'=some b)->us i=some b->False:=fun h1 h2=>by
      rcases h1 with h1 | ⟨i',a1,a2,a3⟩
      ·exact d.apart i b hi rfl h2 h1
      ·exact a2 (d.inj i' i b a1 hi rfl rfl a3 h2)
     have wide:(ad1 v=some b\/∃ i',i'<len/\i'≠i/\us i'=some b)->(ad1 v=some b\/∃ i',i'<len/\us i'=some b):=fun h1=>h1.elim .inl fun ⟨i',a1,_,a2⟩=> .inr ⟨i',a1,a2⟩
     rcases hsrc j e b hj hb with ⟨rfl,h1⟩ | ⟨rfl,h1⟩ | ⟨a1,a2,h1,h2⟩<;>rcases hsrc j' e' b hj' hb' with ⟨r1,h3⟩ | ⟨r1,h3⟩ | ⟨a3,a4,h3,h4⟩
     ·exact r1.symm
     ·exact (mix h1 h3).elim
     ·exact (other a3 h3 h4 (wide h1)).elim
     ·exact (mix h3 h1).elim
     ·exact r1.symm
     ·exact (other a3 h3 h4 (.inr ⟨i,hi,h1⟩)).elim
     ·exact (other a1 h1 h2 (wide h3)).elim
     ·exact (other a1 h1 h2 (.inr ⟨i,hi,h3⟩)).elim
     ·exact hrep.inj j j' e e' b h1 h3 h2 h4)
   exact ⟨_,hle,g1,g2⟩
 ·have hdom:∀ j e,E j=some e->j<H2.length:=fun j e hj=>by have:=hrep.dom j e hj; omega
  have hne:∀ j e,E j=some e->j≠H.length:=fun j e hj=>by have:=hrep.dom j e hj; omega
  have hhold:∀ j e,E j=some e->holds e (H2.getD j .dead)=holds e (H.getD j .dead):=fun j e hj=>by
   by_cases h2:j=k
   ·subst h2
    rw [gk,hk]
    cases e with
    | blk=>rfl
    | slc ver' v us=>
     funext b
     simp only [holds]
     refine propext (or_congr Iff.rfl ⟨fun ⟨i',a1,a2,a3⟩=>⟨i',a1,rfl,a3⟩,fun ⟨i',a1,a2,a3⟩=>⟨i',a1,av6 fun hc=>hin ⟨by omega,_,hj⟩,a3⟩⟩)
   ·rw [gj j h2 (hne j e hj)]
  obtain ⟨g1,g2⟩:=hrep.redo (H2:=H2) (E2:=E) (Env.le_refl _) hdom (fun j e b hj hb=>⟨j,e,hj,by rw [<-hhold j e hj]; exact hb⟩) (fun hx j e hj=>by
    by_cases h2:j=k
    ·subst h2
     have hok:=hrep.ok j e hj
     rw [hk] at hok
     rw [gk]
     cases e with
     | blk=>exact hok.elim
     | slc ver' v us=>
      obtain ⟨h1,xs,d⟩:=hok
      exact ⟨h1,xs,d.hole hx fun hc=>(hin ⟨hc,_,hj⟩).elim⟩
    ·rw [gj j h2 (hne j e hj)]
     exact (hrep.ok j e hj).mono (fun _ _ _=>rfl) (fun b _ hb=>hx b hb) (Env.le_refl _) fun _ _=>rfl) (fun j j' e e' b hj hj' hb hb'=>by
    rw [hhold j e hj] at hb
    rw [hhold j' e' hj'] at hb'
    exact hrep.inj j j' e e' b hj hj' hb hb')
  exact ⟨E,Env.le_refl _,g1,g2⟩
theorem le_us {E:Env}{k ver:Nat}{v:Value}{us us':Nat->Option Nat}(he:E k=some (.slc ver v us)):E.le (E.put k (.slc ver v us')):=by
 refine ⟨fun j b hj=>?_,fun j ver' v' us'' hj=>?_⟩
 ·by_cases hjk:j=k
  ·subst hjk; rw [he] at hj; cases hj
  ·rw [Env.ad0 hjk]; exact hj
 ·by_cases hjk:j=k
  ·subst hjk
   rw [he] at hj
   cases hj
   exact ⟨_,_,_,Env.ab1 _ _ _,Nat.le_refl _,fun _=>rfl⟩
  ·exact ⟨_,_,_,by rw [Env.ad0 hjk]; exact hj,Nat.le_refl _,fun _=>rfl⟩
theorem updN_same (m:Nat->Nat) (h x:Nat):updN m h x h=x:=by unfold updN; rw [decide_eq_true rfl]; rfl
theorem updN_ne {m:Nat->Nat}{h x i:Nat}(hne:h≠i):updN m h x i=m i:=by unfold updN; rw [decide_eq_false (Ne.symm hne)]; rfl
theorem aU9 (p:Nat->Nat->Nat->SV) (h:Nat) (q:Nat->Nat->SV):updP p h q h=q:=by funext a b; unfold updP; rw [ae5,decide_eq_true rfl]; rfl
theorem updP_ne {p:Nat->Nat->Nat->SV}{h:Nat}{q:Nat->Nat->SV}{i:Nat}(hne:h≠i):updP p h q i=p i:=by funext a b; unfold updP; rw [ae5,decide_eq_false (Ne.symm hne)]; rfl
theorem DeepOK.fill {w X X' E E' v us len n c m p g T T' xs h sv} (d:DeepOK w X E v us len n c m p g T T' (some (h,sv)) xs) (hx:∀ b,X' b->X b) {len2:Nat}{q:Nat->Nat->SV}
  (hi:h<len->aq9 w X' c T' (xs.getD (h*n) undef) len2 q) (ha:∀ b,h<len->ad1 (xs.getD (h*n) undef)=some b->ad1 v≠some b/\∀ i,i<len->h≠i->us i≠some b) :
  DeepOK w X' E' v (fun i=>if i=h then ad1 (xs.getD (h*n) undef) else us i) len n c (updN m h len2) (updP p h q) g T T' none xs:=by
 refine ⟨d.pos,d.own,fun i j hi h0 hj=>⟨(d.rest i j hi h0 hj).1,ah8 hx (d.rest i j hi h0 hj).2⟩,fun i' sv' hi hh=>(nomatch hh),fun i hil _=>?_,fun i b hil _ hu=>?_,fun i i' b h1 h2 _ _ hu hu'=>?_⟩
 ·by_cases hc:h=i
  ·subst hc
   rw [updN_same,aU9,if_pos rfl]
   exact ⟨rfl,hi hil⟩
  ·rw [updN_ne hc,updP_ne hc,if_neg (Ne.symm hc)]
   have:=d.inn i hil (av6 hc)
   exact ⟨this.1,this.2.weak hx⟩
 ·by_cases hc:i=h
  ·subst hc
   rw [if_pos rfl] at hu
   exact (ha b hil hu).1
  ·rw [if_neg hc] at hu
   exact d.apart i b hil (av6 (Ne.symm hc)) hu
 ·by_cases hc:i=h
  ·by_cases hc':i'=h
   ·omega
   ·rw [if_pos hc] at hu
    rw [if_neg hc'] at hu'
    exact ((ha b (by omega) hu).2 i' h2 (Ne.symm hc') hu').elim
  ·rw [if_neg hc] at hu
   by_cases hc':i'=h
   ·rw [if_pos hc'] at hu'
    exact ((ha b (by omega) hu').2 i h1 (Ne.symm hc) hu).elim
   ·rw [if_neg hc'] at hu'
    exact d.inj i i' b h1 h2 (av6 (Ne.symm hc)) (av6 (Ne.symm hc')) hu hu'
theorem Rep.aP7 {w0 X0 H E w} (hrep:Rep w0 X0 H E w) {k K ver len n c h ver' len2:Nat}{m:Nat->Nat}{p:Nat->Nat->Nat->SV}{g g2:Nat->Nat->SV}{T T':TypeId}(hk:H.getD k .dead = .deep ver len n c m p g T T' (some (h,.osl K ver')))
  (hK:H.getD K .dead = .row ver' len2 c g2 T') (hne:K≠k) :
  ∃ E2,E.le E2/\Rep w0 X0 ((H.set K .dead).set k (.deep ver len n c (updN m h len2) (updP p h g2) g T T' none)) E2 w/\∀ b,Xo X0 E2 ((H.set K .dead).set k (.deep ver len n c (updN m h len2) (updP p h g2) g T T' none)) b->Xo X0 E H b:=by
 have hkl:k<H.length:=Classical.byContradiction fun hc=>by rw [ae2 hc] at hk; cases hk
 have hKl:K<H.length:=Classical.byContradiction fun hc=>by rw [ae2 hc] at hK; cases hK
 generalize hH2:(H.set K .dead).set k (.deep ver len n c (updN m h len2) (updP p h g2) g T T' none)=H2
 have hlen:H2.length=H.length:=by rw [<-hH2]; simp
 have gk:H2.getD k .dead = .deep ver len n c (updN m h len2) (updP p h g2) g T T' none:=by rw [<-hH2,ab4 (by simpa using hkl)]
 have gK:H2.getD K .dead = .dead:=by rw [<-hH2,aa3 hne,ab4 hKl]
 have gj:∀ j,j≠k->j≠K->H2.getD j .dead=H.getD j .dead:=fun j h1 h2=>by rw [<-hH2,aa3 h1,aa3 h2]
 cases he:E k with
 | none=>
  have hhold:∀ j e b,E j=some e->holds e (H2.getD j .dead) b->j≠k/\j≠K/\holds e (H.getD j .dead) b:=fun j e b hj hb=>by
   have h1:j≠k:=fun hc=>by subst hc; rw [he] at hj; cases hj
   have h2:j≠K:=fun hc=>by subst hc; rw [gK] at hb; cases e<;>exact hb
   exact ⟨h1,h2,by rwa [gj j h1 h2] at hb⟩
  obtain ⟨g1,g2⟩:=hrep.redo (H2:=H2) (E2:=E) (Env.le_refl _) (fun j e hj=>by have:=hrep.dom j e hj; omega) (fun j e b hj hb=>⟨j,e,hj,(hhold j e b hj hb).2.2⟩) (fun hx j e hj=>by
    have h1:j≠k:=fun hc=>by subst hc; rw [he] at hj; cases hj
    by_cases h2:j=K
    ·subst h2; rw [gK]; cases e<;>trivial
    ·rw [gj j h1 h2]
     exact (hrep.ok j e hj).mono (fun _ _ _=>rfl) (fun b _ hb=>hx b hb) (Env.le_refl _) fun _ _=>rfl) (fun j j' e e' b hj hj' hb hb'=>hrep.inj j j' e e' b hj hj' (hhold j e b hj hb).2.2 (hhold j' e' b hj' hb').2.2)
  exact ⟨E,Env.le_refl _,g1,g2⟩
 | some e=>
  have hok:=hrep.ok k e he
  rw [hk] at hok
  cases e with
  | blk=>exact hok.elim
  | slc ver0 v us=>
   obtain ⟨rfl,xs,d⟩:=hok
   have hole:h<len->∃ usK,E K=some (.slc ver' (xs.getD (h*n) undef) usK)/\∃ ys,ah4 w T' c (xs.getD (h*n) undef) len2 ys/\∀ i j,i<len2->j<c->ab3 (ys.getD (i*c+j) undef)/\R w (Xo X0 E H) E0 (g2 i j) (ys.getD (i*c+j) undef):=fun hl=>by
    obtain ⟨_,hr⟩:=d.out h (.osl K ver') hl (by simp [hoAt])
    cases hr with
    | osl he' hv=>
     have hok':=hrep.ok K _ he'
     rw [hK] at hok'
     exact ⟨_,he',hok'.2⟩
    | oslOld he' hlt hv=>
     have hok':=hrep.ok K _ he'
     rw [hK] at hok'
     have:=hok'.1
     omega
   have hle:=le_us (us':=fun i=>if i=h then ad1 (xs.getD (h*n) undef) else us i) he
   have hk0:∀ b,(ad1 v=some b\/∃ i,i<len/\h≠i/\us i=some b)->holds (.slc ver0 v us) (H.getD k .dead) b:=fun b hb=>by
    rw [hk]
    rcases hb with hb | ⟨i,h1,h2,h3⟩
    ·exact .inl hb
    ·exact .inr ⟨i,h1,av6 h2,h3⟩
   have hK0:∀ b,h<len->ad1 (xs.getD (h*n) undef)=some b->∃ e,E K=some e/\holds e (H.getD K .dead) b:=fun b hl hb=>by
    obtain ⟨usK,h1,_⟩:=hole hl
    exact ⟨_,h1,by rw [hK]; exact hb⟩
   have hsrc:∀ j e b,(E.put k (.slc ver0 v (fun i=>if i=h then ad1 (xs.getD (h*n) undef) else us i))) j=some e->holds e (H2.getD j .dead) b->∃ k0 e0,E k0=some e0/\holds e0 (H.getD k0 .dead) b/\(j=k/\(k0=k\/k0=K)\/j≠k/\j≠K/\k0=j):=by
    intro j e b hj hb
    by_cases h1:j=k
    ·subst h1
     rw [Env.ab1] at hj
     cases hj
     rw [gk] at hb
     rcases hb with hb | ⟨i,hi,_,hb⟩
     ·exact ⟨j,_,he,hk0 b (.inl hb),.inl ⟨rfl,.inl rfl⟩⟩
     ·by_cases hc:i=h
      ·simp only [if_pos hc] at hb
       obtain ⟨e,q1,q2⟩:=hK0 b (by omega) hb
       exact ⟨K,e,q1,q2,.inl ⟨rfl,.inr rfl⟩⟩
      ·simp only [if_neg hc] at hb
       exact ⟨j,_,he,hk0 b (.inr ⟨i,hi,Ne.symm hc,hb⟩),.inl ⟨rfl,.inl rfl⟩⟩
    ·rw [Env.ad0 h1] at hj
     have h2:j≠K:=fun hc=>by subst hc; rw [gK] at hb; cases e<;>exact hb
     rw [gj j h1 h2] at hb
     exact ⟨j,e,hj,hb,.inr ⟨h1,h2,rfl⟩⟩
   obtain ⟨g1,g3⟩:=hrep.redo (H2:=H2) hle (fun j e hj=>by
     by_cases h1:j=k
     ·omega
     ·rw [Env.ad0 h1] at hj; have:=hrep.dom j e hj; omega) (fun j e b hj hb=>by obtain ⟨k0,e0,q1,q2,_⟩:=hsrc j e b hj hb; exact ⟨k0,e0,q1,q2⟩) (fun hx j e hj=>by
     by_cases h1:j=k
     ·subst h1
      rw [Env.ab1] at hj
      cases hj
      rw [gk]
      refine ⟨rfl,xs,d.fill hx (fun hl=>?_) fun b hl hb=>?_⟩
      ·obtain ⟨_,_,ys,q2,q3⟩:=hole hl
       exact ⟨ys,q2,fun i' j' a1 a2=>⟨(q3 i' j' a1 a2).1,ah8 hx (q3 i' j' a1 a2).2⟩⟩
      ·obtain ⟨e,q1,q2⟩:=hK0 b hl hb
       exact ⟨fun hc=>hne (hrep.inj K j _ _ b q1 he q2 (hk0 b (.inl hc))),fun i hi hhi hc=>hne (hrep.inj K j _ _ b q1 he q2 (hk0 b (.inr ⟨i,hi,hhi,hc⟩)))⟩
     ·rw [Env.ad0 h1] at hj
      by_cases h2:j=K
      ·subst h2; rw [gK]; cases e<;>trivial
      ·rw [gj j h1 h2]
       exact (hrep.ok j e hj).mono (fun _ _ _=>rfl) (fun b _ hb=>hx b hb) hle fun _ _=>rfl) (fun j j' e e' b hj hj' hb hb'=>by
     obtain ⟨k0,e0,q1,q2,q3⟩:=hsrc j e b hj hb
     obtain ⟨k1,e1,q4,q5,q6⟩:=hsrc j' e' b hj' hb'
     have:=hrep.inj k0 k1 e0 e1 b q1 q4 q2 q5
     omega)
   exact ⟨_,hle,g1,g3⟩
theorem Rep.unfocus0 {w0 X0 H E w} (hrep:Rep w0 X0 H E w) {k ver len n c h:Nat}{m:Nat->Nat}{p:Nat->Nat->Nat->SV}{g:Nat->Nat->SV}{T T':TypeId}(hk:H.getD k .dead = .deep ver len n c m p g T T' (some (h,.cap0))) :
  ∃ E2,E.le E2/\Rep w0 X0 (H.set k (.deep ver len n c (updN m h 0) p g T T' none)) E2 w/\∀ b,Xo X0 E2 (H.set k (.deep ver len n c (updN m h 0) p g T T' none)) b->Xo X0 E H b:=by
 have hkl:k<H.length:=Classical.byContradiction fun hc=>by rw [ae2 hc] at hk; cases hk
 generalize hH2:H.set k (.deep ver len n c (updN m h 0) p g T T' none)=H2
 have hlen:H2.length=H.length:=by rw [<-hH2]; simp
 have gk:H2.getD k .dead = .deep ver len n c (updN m h 0) p g T T' none:=by rw [<-hH2,ab4 hkl]
 have gj:∀ j,j≠k->H2.getD j .dead=H.getD j .dead:=fun j h1=>by rw [<-hH2,aa3 h1]
 cases he:E k with
 | none=>
  have hh:∀ j e,E j=some e->H2.getD j .dead=H.getD j .dead:=fun j e hj=>gj j fun hc=>by subst hc; rw [he] at hj; cases hj
  refine ⟨E,Env.le_refl _,hrep.ext' (by omega) hh,?_⟩
  rw [ap2 hh]
  exact fun _ hb=>hb
 | some e=>
  have hok:=hrep.ok k e he
  rw [hk] at hok
  cases e with
  | blk=>exact hok.elim
  | slc ver0 v us=>
   obtain ⟨rfl,xs,d⟩:=hok
   have hole:h<len->∃ a,xs.getD (h*n) undef = .slice a 0 0:=fun hl=>by
    obtain ⟨_,hr⟩:=d.out h .cap0 hl (by simp [hoAt])
    exact aU0 hr
   have hnb:h<len->ad1 (xs.getD (h*n) undef)=none:=fun hl=>by obtain ⟨a,e⟩:=hole hl; rw [e]; cases a<;>rfl
   have hle:=le_us (us':=fun i=>if i=h then ad1 (xs.getD (h*n) undef) else us i) he
   have hsrc:∀ j e b,(E.put k (.slc ver0 v (fun i=>if i=h then ad1 (xs.getD (h*n) undef) else us i))) j=some e->holds e (H2.getD j .dead) b->∃ e0,E j=some e0/\holds e0 (H.getD j .dead) b:=by
    intro j e b hj hb
    by_cases h1:j=k
    ·subst h1
     rw [Env.ab1] at hj
     cases hj
     rw [gk] at hb
     refine ⟨_,he,?_⟩
     rw [hk]
     rcases hb with hb | ⟨i,hi,_,hb⟩
     ·exact .inl hb
     ·by_cases hc:i=h
      ·simp only [if_pos hc] at hb
       rw [hnb (by omega)] at hb
       cases hb
      ·simp only [if_neg hc] at hb
       exact .inr ⟨i,hi,av6 (Ne.symm hc),hb⟩
    ·rw [Env.ad0 h1] at hj
     rw [gj j h1] at hb
     exact ⟨e,hj,hb⟩
   obtain ⟨g1,g3⟩:=hrep.redo (H2:=H2) hle (fun j e hj=>by
     by_cases h1:j=k
     ·omega
     ·rw [Env.ad0 h1] at hj; have:=hrep.dom j e hj; omega) (fun j e b hj hb=>by obtain ⟨e0,q1,q2⟩:=hsrc j e b hj hb; exact ⟨j,e0,q1,q2⟩) (fun hx j e hj=>by
     by_cases h1:j=k
     ·subst h1
      rw [Env.ab1] at hj
      cases hj
      rw [gk]
      refine ⟨rfl,xs,?_⟩
      have hp:updP p h (p h)=p:=by
       funext i
       by_cases hc:h=i
       ·subst hc; exact aU9 _ _ _
       ·exact updP_ne hc
      rw [<-hp]
      refine d.fill hx (fun hl=>?_) fun b hl hb=>by rw [hnb hl] at hb; cases hb
      obtain ⟨a,e⟩:=hole hl
      exact ⟨[],.inl ⟨a,e,rfl,rfl⟩,fun i' j' a1=>absurd a1 (Nat.not_lt_zero _)⟩
     ·rw [Env.ad0 h1] at hj
      rw [gj j h1]
      exact (hrep.ok j e hj).mono (fun _ _ _=>rfl) (fun b _ hb=>hx b hb) hle fun _ _=>rfl) (fun j j' e e' b hj hj' hb hb'=>by
     obtain ⟨e0,q1,q2⟩:=hsrc j e b hj hb
     obtain ⟨e1,q4,q5⟩:=hsrc j' e' b hj' hb'
     exact hrep.inj j j' e0 e1 b q1 q4 q2 q5)
   exact ⟨_,hle,g1,g3⟩
theorem Rep.split {w0 X0 H E w} (hrep:Rep w0 X0 H E w) {k:Nat}{e eK:EI}{so2 soK:SO}(he:E k=some e)
  (hsub:∀ b,holds e so2 b->holds e (H.getD k .dead) b) (hsubK:∀ b,holds eK soK b->holds e (H.getD k .dead) b) (hdis:∀ b,holds e so2 b->¬ holds eK soK b)
  (ok:∀ X2:Nat->Prop,(∀ b,X2 b->Xo X0 E H b)->(∀ b,X2 b->Xo X0 E H b)->EIok w X2 (E.put H.length eK) e so2/\EIok w X2 (E.put H.length eK) eK soK) :
  E.le (E.put H.length eK)/\Rep w0 X0 (H.set k so2++[soK]) (E.put H.length eK) w/\∀ b,Xo X0 (E.put H.length eK) (H.set k so2++[soK]) b->Xo X0 E H b:=by
 have hkl:k<H.length:=hrep.dom k e he
 have hnew:E H.length=none:=hrep.known
 generalize hH2:H.set k so2++[soK]=H2
 have hlen:H2.length=H.length+1:=by rw [<-hH2]; simp
 have gk:H2.getD k .dead=so2:=by rw [<-hH2,ab6 (by simpa using hkl),ab4 hkl]
 have gK:H2.getD H.length .dead=soK:=by rw [<-hH2,List.getD_eq_getElem?_getD,List.getElem?_append_right (by simp)]; simp
 have gj:∀ j,j≠k->j≠H.length->H2.getD j .dead=H.getD j .dead:=fun j h1 h2=>by
  by_cases hj:j<H.length
  ·rw [<-hH2,ab6 (by simpa using hj),aa3 h1]
  ·rw [ae2 (by omega),ae2 hj]
 have hle:=Env.ax4 (e:=eK) hnew
 have hsrc:∀ j e' b,(E.put H.length eK) j=some e'->holds e' (H2.getD j .dead) b->(j=k/\holds e so2 b)\/(j=H.length/\holds eK soK b)\/(j≠k/\j≠H.length/\E j=some e'/\holds e' (H.getD j .dead) b):=by
  intro j e' b hj hb
  by_cases h1:j=H.length
  ·subst h1
   rw [Env.ab1] at hj
   cases hj
   rw [gK] at hb
   exact .inr (.inl ⟨rfl,hb⟩)
  ·rw [Env.ad0 h1] at hj
   by_cases h2:j=k
   ·subst h2
    rw [he] at hj
    cases hj
    rw [gk] at hb
    exact .inl ⟨rfl,hb⟩
   ·rw [gj j h2 h1] at hb
    exact .inr (.inr ⟨h2,h1,hj,hb⟩)
 obtain ⟨g1,g2⟩:=hrep.redo (H2:=H2) hle (fun j e' hj=>by
   by_cases h1:j=H.length
   ·omega
   ·rw [Env.ad0 h1] at hj; have:=hrep.dom j e' hj; omega) (fun j e' b hj hb=>by
   rcases hsrc j e' b hj hb with ⟨rfl,h1⟩ | ⟨rfl,h1⟩ | ⟨_,_,h1,h2⟩
   ·exact ⟨j,_,he,hsub b h1⟩
   ·exact ⟨k,_,he,hsubK b h1⟩
   ·exact ⟨j,e',h1,h2⟩) (fun hx j e' hj=>by
   by_cases h1:j=H.length
   ·subst h1
    rw [Env.ab1] at hj
    cases hj
    rw [gK]
    exact (ok _ hx hx).2
   ·rw [Env.ad0 h1] at hj
    by_cases h2:j=k
    ·subst h2
     rw [he] at hj
     cases hj
     rw [gk]
     exact (ok _ hx hx).1
    ·rw [gj j h2 h1]
     exact (hrep.ok j e' hj).mono (fun _ _ _=>rfl) (fun b _ hb=>hx b hb) hle fun _ _=>rfl) (fun j j' e1 e2 b hj hj' hb hb'=>by
   have other:∀ {j e1},j≠k->E j=some e1->holds e1 (H.getD j .dead) b->holds e (H.getD k .dead) b->False:=fun h1 h2 h3 h4=>h1 (hrep.inj _ _ _ _ b h2 he h3 h4)
   rcases hsrc j e1 b hj hb with ⟨rfl,h1⟩ | ⟨rfl,h1⟩ | ⟨a1,a2,h1,h2⟩<;>rcases hsrc j' e2 b hj' hb' with ⟨r1,h3⟩ | ⟨r1,h3⟩ | ⟨a3,a4,h3,h4⟩
   ·exact r1.symm
   ·exact (hdis b h1 h3).elim
   ·exact (other a3 h3 h4 (hsub b h1)).elim
   ·exact (hdis b h3 h1).elim
   ·exact r1.symm
   ·exact (other a3 h3 h4 (hsubK b h1)).elim
   ·exact (other a1 h1 h2 (hsub b h3)).elim
   ·exact (other a1 h1 h2 (hsubK b h3)).elim
   ·exact hrep.inj j j' e1 e2 b h1 h3 h2 h4)
 exact ⟨hle,g1,g2⟩
theorem Rep.join {w0 X0 H E w} (hrep:Rep w0 X0 H E w) {k K:Nat}{e e2 eK:EI}{so2:SO}(he:E k=some e) (heK:E K=some eK) (hne:K≠k) (hle:E.le (E.put k e2))
  (hsub:∀ b,holds e2 so2 b->holds e (H.getD k .dead) b\/holds eK (H.getD K .dead) b)
  (ok:∀ X2:Nat->Prop,(∀ b,X2 b->Xo X0 E H b)->EIok w X2 (E.put k e2) e2 so2) :
  Rep w0 X0 ((H.set K .dead).set k so2) (E.put k e2) w/\∀ b,Xo X0 (E.put k e2) ((H.set K .dead).set k so2) b->Xo X0 E H b:=by
 have hkl:k<H.length:=hrep.dom k e he
 have hKl:K<H.length:=hrep.dom K eK heK
 generalize hH2:(H.set K .dead).set k so2=H2
 have hlen:H2.length=H.length:=by rw [<-hH2]; simp
 have gk:H2.getD k .dead=so2:=by rw [<-hH2,ab4 (by simpa using hkl)]
 have gK:H2.getD K .dead = .dead:=by rw [<-hH2,aa3 hne,ab4 hKl]
 have gj:∀ j,j≠k->j≠K->H2.getD j .dead=H.getD j .dead:=fun j h1 h2=>by rw [<-hH2,aa3 h1,aa3 h2]
 have hsrc:∀ j e' b,(E.put k e2) j=some e'->holds e' (H2.getD j .dead) b->∃ k0 e0,E k0=some e0/\holds e0 (H.getD k0 .dead) b/\(j=k/\(k0=k\/k0=K)\/j≠k/\j≠K/\k0=j):=by
  intro j e' b hj hb
  by_cases h1:j=k
  ·subst h1
   rw [Env.ab1] at hj
   cases hj
   rw [gk] at hb
   rcases hsub b hb with h3 | h3
   ·exact ⟨j,e,he,h3,.inl ⟨rfl,.inl rfl⟩⟩
   ·exact ⟨K,eK,heK,h3,.inl ⟨rfl,.inr rfl⟩⟩
  ·rw [Env.ad0 h1] at hj
   have h2:j≠K:=fun hc=>by subst hc; rw [gK] at hb; cases e'<;>exact hb
   rw [gj j h1 h2] at hb
   exact ⟨j,e',hj,hb,.inr ⟨h1,h2,rfl⟩⟩
 exact hrep.redo (H2:=H2) hle (fun j e' hj=>by
   by_cases h1:j=k
   ·omega
   ·rw [Env.ad0 h1] at hj; have:=hrep.dom j e' hj; omega) (fun j e' b hj hb=>by obtain ⟨k0,e0,q1,q2,_⟩:=hsrc j e' b hj hb; exact ⟨k0,e0,q1,q2⟩) (fun hx j e' hj=>by
   by_cases h1:j=k
   ·subst h1
    rw [Env.ab1] at hj
    cases hj
    rw [gk]
    exact ok _ hx
   ·rw [Env.ad0 h1] at hj
    by_cases h2:j=K
    ·subst h2; rw [gK]; cases e'<;>trivial
    ·rw [gj j h1 h2]
     exact (hrep.ok j e' hj).mono (fun _ _ _=>rfl) (fun b _ hb=>hx b hb) hle fun _ _=>rfl) (fun j j' e1 e2' b hj hj' hb hb'=>by
   obtain ⟨k0,e0,q1,q2,q3⟩:=hsrc j e1 b hj hb
   obtain ⟨k1,e1',q4,q5,q6⟩:=hsrc j' e2' b hj' hb'
   have:=hrep.inj k0 k1 e0 e1' b q1 q4 q2 q5
   omega)
theorem aA5 {h y:Int}{sv:SV}{fl:Bool}:hoI (some (h,sv,fl)) y=none<->h≠y:=by
 simp only [hoI]
 split<;>simp_all
theorem Rep.focusM {w0 X0 H E w} (hrep:Rep w0 X0 H E w) {k c:Nat}{kd:IntKind}{has:Int->Bool}{m:Int->Nat}{p:Int->Nat->Nat->SV}{T':TypeId}(hk:H.getD k .dead = .mps kd has c m p T' none) (i:Int) :
  ∃ E2,E.le E2/\Rep w0 X0 (H.set k (.mps kd has c m p T' (some (i,.osl H.length 0,false)))++[.row 0 (m i) c (p i) T']) E2 w/\∀ b,Xo X0 E2 (H.set k (.mps kd has c m p T' (some (i,.osl H.length 0,false)))++[.row 0 (m i) c (p i) T']) b->Xo X0 E H b:=by
 have hkl:k<H.length:=Classical.byContradiction fun hc=>by rw [ae2 hc] at hk; cases hk
 cases he:E k with
 | none=>
  have hh:∀ j e,E j=some e->(H.set k (SO.mps kd has c m p T' (some (i,.osl H.length 0,false)))++[SO.row 0 (m i) c (p i) T']).getD j .dead=H.getD j .dead:=fun j e hj=>by
   have h1:j≠k:=fun hc=>by subst hc; rw [he] at hj; cases hj
   have h2:=hrep.dom j e hj
   rw [ab6 (by simpa using h2),aa3 h1]
  refine ⟨E,Env.le_refl _,hrep.ext' (by simp) hh,fun b hb=>?_⟩
  rwa [ap2 hh] at hb
 | some e=>
  have hok:=hrep.ok k e he
  rw [hk] at hok
  cases e with
  | blk=>exact hok.elim
  | slc ver v us=>
   obtain ⟨rfl,b,es,clock,rfl,hb,d⟩:=hok
   obtain ⟨u,hu1,hu2,hu3,ys,hu4,hu5⟩:∃ u,(∀ e∈es.toList,e.key = .int kd i->e.val=u)/\(has i=false->u = .slice none 0 0)/\ad1 u=us (encI i)/\aq9 w (Xo X0 E H) c T' u (m i) (p i):=by
    cases hi:has i with
    | true=>
     obtain ⟨e,he',hke⟩:=(d.map.iff [i] rfl).1 hi
     obtain ⟨q1,q2⟩:=d.inn i e he' hke rfl
     exact ⟨e.val,fun e2 h2 hk2=>by rw [d.map.uniq h2 he' (hk2.trans hke.symm)],fun hc=>(nomatch hc),q1,q2⟩
    | false=>
     obtain ⟨q1,q2⟩:=d.gone i hi
     refine ⟨.slice none 0 0,fun e he' hke=>?_,fun _=>rfl,by rw [q2]; rfl,[],.inl ⟨none,rfl,q1,rfl⟩,fun a b ha=>by omega⟩
     have:=(d.map.iff [i] rfl).2 ⟨e,he',hke⟩
     simp only [List.getD_cons_zero] at this
     rw [hi] at this
     cases this
   have hus:∃ a n c,u = .slice a n c:=by
    rcases hu4 with ⟨a,rfl,_⟩ | ⟨b',cap,cur,rfl,_⟩<;>exact ⟨_,_,_,rfl⟩
   have am9:∀ b',us (encI i)=some b'->∃ cc TT ff,w.heap[b']?=some (.cells cc TT ff):=fun b' hb'=>by
    rw [<-hu3] at hb'
    rcases hu4 with ⟨a,rfl,_⟩ | ⟨b2,cap,cur,rfl,q2,_⟩
    ·cases a<;>simp [ad1] at hb'
    ·simp only [ad1,Option.some.injEq] at hb'; subst hb'; exact ⟨_,_,_,q2⟩
   obtain ⟨s1,s2,s3⟩:=hrep.split (so2:= .mps kd has c m p T' (some (i,.osl H.length 0,false))) (eK:= .slc 0 u (fun _=>none)) (soK:= .row 0 (m i) c (p i) T') he
    (fun b' hb'=>by
     rw [hk]
     rcases hb' with hb' | ⟨y,h1,h2⟩
     ·exact .inl hb'
     ·exact .inr ⟨y,rfl,h2⟩)
    (fun b' hb'=>by rw [hk]; exact .inr ⟨i,rfl,hu3▸hb'⟩)
    (fun b' h1 h2=>by
     have h3:us (encI i)=some b':=hu3▸h2
     rcases h1 with h1 | ⟨y,h4,h5⟩
     ·simp only [mblk,Option.some.injEq] at h1
      subst h1
      obtain ⟨cc,TT,ff,h9⟩:=am9 _ h3
      rw [hb] at h9
      cases h9
     ·exact (aA5.1 h4) (d.inj i y b' rfl rfl h3 h5))
    (fun X2 hx _=>⟨⟨rfl,b,es,clock,rfl,hb,d.map,fun y e' he' hke hh=>by
      obtain ⟨q1,ys',q2,q3⟩:=d.inn y e' he' hke rfl
      exact ⟨q1,ys',q2,fun i' j' a1 a2=>⟨(q3 i' j' a1 a2).1,ah8 hx (q3 i' j' a1 a2).2⟩⟩,d.gone,fun h sv fl hho=>by
      cases hho
      exact ⟨fun hc=>(nomatch hc),fun e' he' hke=>by rw [hu1 e' he' hke]; exact .osl (Env.ab1 _ _ _) hus,fun hz=>by rw [<-hu2 hz]; exact .osl (Env.ab1 _ _ _) hus⟩,fun y y' b' _ _=>d.inj y y' b' rfl rfl⟩,
     rfl,ys,hu4,fun i' j' a1 a2=>⟨(hu5 i' j' a1 a2).1,ah8 hx (hu5 i' j' a1 a2).2⟩⟩)
   exact ⟨_,s1,s2,s3⟩
theorem updI_same (m:Int->Nat) (h:Int) (x:Nat):updI m h x h=x:=by unfold updI; rw [decide_eq_true rfl]; rfl
theorem updI_ne {m:Int->Nat}{h i:Int}{x:Nat}(hne:h≠i):updI m h x i=m i:=by unfold updI; rw [decide_eq_false (Ne.symm hne)]; rfl
theorem updPI_same (p:Int->Nat->Nat->SV) (h:Int) (q:Nat->Nat->SV):aP4 p h q h=q:=by funext a b; unfold aP4; rw [ae5,decide_eq_true rfl]; rfl
theorem updPI_ne {p:Int->Nat->Nat->SV}{h i:Int}{q:Nat->Nat->SV}(hne:h≠i):aP4 p h q i=p i:=by funext a b; unfold aP4; rw [ae5,decide_eq_false (Ne.symm hne)]; rfl
theorem Rep.aD4 {w0 X0 H E w} (hrep:Rep w0 X0 H E w) {k K c ver' len2:Nat}{h:Int}{kd:IntKind}{has:Int->Bool}{m:Int->Nat}{p:Int->Nat->Nat->SV}{g2:Nat->Nat->SV}{T':TypeId}(hk:H.getD k .dead = .mps kd has c m p T' (some (h,.osl K ver',true)))
  (hK:H.getD K .dead = .row ver' len2 c g2 T') (hne:K≠k) :
  ∃ E2,E.le E2/\Rep w0 X0 ((H.set K .dead).set k (.mps kd has c (updI m h len2) (aP4 p h g2) T' none)) E2 w/\∀ b,Xo X0 E2 ((H.set K .dead).set k (.mps kd has c (updI m h len2) (aP4 p h g2) T' none)) b->Xo X0 E H b:=by
 have hkl:k<H.length:=Classical.byContradiction fun hc=>by rw [ae2 hc] at hk; cases hk
 have hKl:K<H.length:=Classical.byContradiction fun hc=>by rw [ae2 hc] at hK; cases hK
 cases he:E k with
 | none=>
  generalize hH2:(H.set K .dead).set k (.mps kd has c (updI m h len2) (aP4 p h g2) T' none)=H2
  have gK:H2.getD K .dead = .dead:=by rw [<-hH2,aa3 hne,ab4 hKl]
  have gj:∀ j,j≠k->j≠K->H2.getD j .dead=H.getD j .dead:=fun j h1 h2=>by rw [<-hH2,aa3 h1,aa3 h2]
  have hlen:H2.length=H.length:=by rw [<-hH2]; simp
  have hhold:∀ j e b,E j=some e->holds e (H2.getD j .dead) b->j≠k/\j≠K/\holds e (H.getD j .dead) b:=fun j e b hj hb=>by
   have h1:j≠k:=fun hc=>by subst hc; rw [he] at hj; cases hj
   have h2:j≠K:=fun hc=>by subst hc; rw [gK] at hb; cases e<;>exact hb
   exact ⟨h1,h2,by rwa [gj j h1 h2] at hb⟩
  obtain ⟨g1,g2⟩:=hrep.redo (H2:=H2) (E2:=E) (Env.le_refl _) (fun j e hj=>by have:=hrep.dom j e hj; omega) (fun j e b hj hb=>⟨j,e,hj,(hhold j e b hj hb).2.2⟩) (fun hx j e hj=>by
    have h1:j≠k:=fun hc=>by subst hc; rw [he] at hj; cases hj
    by_cases h2:j=K
    ·subst h2; rw [gK]; cases e<;>trivial
    ·rw [gj j h1 h2]
     exact (hrep.ok j e hj).mono (fun _ _ _=>rfl) (fun b _ hb=>hx b hb) (Env.le_refl _) fun _ _=>rfl) (fun j j' e e' b hj hj' hb hb'=>hrep.inj j j' e e' b hj hj' (hhold j e b hj hb).2.2 (hhold j' e' b hj' hb').2.2)
  exact ⟨E,Env.le_refl _,g1,g2⟩
 | some e=>
  have hok:=hrep.ok k e he
  rw [hk] at hok
  cases e with
  | blk=>exact hok.elim
  | slc ver v us=>
   obtain ⟨rfl,b,es,clock,rfl,hb,d⟩:=hok
   obtain ⟨o1,o2,o3⟩:=d.out _ _ _ rfl
   have hth:=o1 rfl
   obtain ⟨e0,he0,hke0⟩:=(d.map.iff [h] rfl).1 hth
   obtain ⟨usK,heK,ys,q2,q3⟩:∃ usK,E K=some (.slc ver' e0.val usK)/\∃ ys,ah4 w T' c e0.val len2 ys/\∀ i j,i<len2->j<c->ab3 (ys.getD (i*c+j) undef)/\R w (Xo X0 E H) E0 (g2 i j) (ys.getD (i*c+j) undef):=by
    have hr:=o2 e0 he0 hke0
    generalize hv0:e0.val=v0 at hr
    cases hr with
    | osl he' hv=>
     have hok':=hrep.ok K _ he'
     rw [hK] at hok'
     exact ⟨_,he',hok'.2⟩
    | oslOld he' hlt hv=>
     have hok':=hrep.ok K _ he'
     rw [hK] at hok'
     have:=hok'.1
     omega
   have hKh:∀ b',ad1 e0.val=some b'->holds (.slc ver' e0.val usK) (H.getD K .dead) b':=fun b' hb'=>by rw [hK]; exact hb'
   have hle:=le_us (us':=fun n=>if n=encI h then ad1 e0.val else us n) he
   have hus:∀ y,h≠y->(if encI y=encI h then ad1 e0.val else us (encI y))=us (encI y):=fun y hy=>if_neg fun hc=>hy (encI_inj hc).symm
   obtain ⟨s2,s3⟩:=hrep.join (so2:= .mps kd has c (updI m h len2) (aP4 p h g2) T' none) he heK hne hle
    (fun b' hb'=>by
     rw [hk]
     rcases hb' with hb' | ⟨y,_,h2⟩
     ·exact .inl (.inl hb')
     ·by_cases hy:h=y
      ·subst hy
       simp only [if_pos rfl] at h2
       exact .inr (hKh b' h2)
      ·simp only [hus y hy] at h2
       exact .inl (.inr ⟨y,aA5.2 hy,h2⟩))
    (fun X2 hx=>⟨rfl,b,es,clock,rfl,hb,d.map,fun y e' he' hke _=>by
      by_cases hy:h=y
      ·subst hy
       have:=d.map.uniq he' he0 (hke.trans hke0.symm)
       subst this
       rw [updI_same,updPI_same]
       exact ⟨(if_pos rfl).symm,ys,q2,fun i' j' a1 a2=>⟨(q3 i' j' a1 a2).1,ah8 hx (q3 i' j' a1 a2).2⟩⟩
      ·rw [updI_ne hy,updPI_ne hy]
       obtain ⟨r1,ys',r2,r3⟩:=d.inn y e' he' hke (aA5.2 hy)
       exact ⟨r1.trans (hus y hy).symm,ys',r2,fun i' j' a1 a2=>⟨(r3 i' j' a1 a2).1,ah8 hx (r3 i' j' a1 a2).2⟩⟩,fun y hz=>by
      have hy:h≠y:=fun hc=>by subst hc; rw [hth] at hz; cases hz
      rw [updI_ne hy]
      exact ⟨(d.gone y hz).1,(hus y hy).trans (d.gone y hz).2⟩,fun _ _ _ hho=>(nomatch hho),fun y y' b' _ _ h1 h2=>by
      have tok:∀ b',ad1 e0.val=some b'->∀ z,h≠z->us (encI z)=some b'->False:=fun b' hb' z hz hc=>hne (hrep.inj K k _ _ b' heK he (hKh b' hb') (by rw [hk]; exact .inr ⟨z,aA5.2 hz,hc⟩))
      by_cases hy:h=y
      ·subst hy
       simp only [if_pos rfl] at h1
       by_cases hy':h=y'
       ·exact hy'
       ·simp only [hus y' hy'] at h2
        exact (tok b' h1 y' hy' h2).elim
      ·simp only [hus y hy] at h1
       by_cases hy':h=y'
       ·subst hy'
        simp only [if_pos rfl] at h2
        exact (tok b' h2 y hy h1).elim
       ·simp only [hus y' hy'] at h2
        exact d.inj y y' b' (aA5.2 hy) (aA5.2 hy') h1 h2⟩)
   exact ⟨_,hle,s2,s3⟩
theorem Rep.aS0 {w0 X0 H E w} (hrep:Rep w0 X0 H E w) {k c:Nat}{kd:IntKind}{has:Int->Bool}{m:Int->Nat}{p:Int->Nat->Nat->SV}{T':TypeId}(hk:H.getD k .dead = .mps kd has c m p T' none) :
  Rep w0 X0 (H.set k (.mpi (.one kd) true (fun l=>has (l.getD 0 0)) (fun l=> .sl (m (l.getD 0 0)) c (p (l.getD 0 0))))) E w/\ab8 (Xo X0 E H) (Xo X0 E (H.set k (.mpi (.one kd) true (fun l=>has (l.getD 0 0)) (fun l=> .sl (m (l.getD 0 0)) c (p (l.getD 0 0)))))) w:=by
 have hkl:k<H.length:=Classical.byContradiction fun hc=>by rw [ae2 hc] at hk; cases hk
 cases he:E k with
 | none=>
  have hh:∀ j e,E j=some e->(H.set k (.mpi (.one kd) true (fun l=>has (l.getD 0 0)) (fun l=> .sl (m (l.getD 0 0)) c (p (l.getD 0 0))))).getD j .dead=H.getD j .dead:=fun j e hj=>aa3 fun hc=>by subst hc; rw [he] at hj; cases hj
  refine ⟨hrep.ext' (by simp) hh,?_⟩
  rw [ap2 hh]
  exact ab8.refl _ _
 | some e=>
  have hok:=hrep.ok k e he
  rw [hk] at hok
  cases e with
  | blk=>exact hok.elim
  | slc ver v us=>
   obtain ⟨rfl,b,es,clock,rfl,hb,d⟩:=hok
   have hput:E.put k (.slc 0 (.map (some b)) us)=E:=Env.af6 he
   have hu:=hrep.upd (w':=w) (e':= .slc 0 (.map (some b)) us) (so':= .mpi (.one kd) true (fun l=>has (l.getD 0 0)) (fun l=> .sl (m (l.getD 0 0)) c (p (l.getD 0 0)))) he (by rw [hput]; exact Env.le_refl _) (fun _ _ _=>rfl) rfl rfl rfl (Nat.le_refl _)
    (fun b' hb'=> .inl (by rw [hk]; exact .inl hb')) (fun hke hwi hfree=>⟨rfl,b,es,clock,rfl,hb,d.map,fun l e hl he' hke'=>(by
     match l,hl with
     | [y],_=>
      simp only [List.getD_cons_zero]
      obtain ⟨q1,ys,q2,q3⟩:=d.inn y e he' hke' rfl
      refine q2.toSl (T:=T') (fun b' hb'=>?_) fun i j hi hj=>⟨(q3 i j hi hj).1,(q3 i j hi hj).2.mono hke hwi (Env.le_refl _)⟩
      refine hfree b' (by rw [hk]; exact .inr ⟨y,rfl,q1▸hb'⟩) fun hc=>?_
      simp only [holds,mblk,Option.some.injEq] at hc
      subst hc
      rcases q2 with ⟨a,q4,_⟩ | ⟨b2,cap,cur,q4,q5,_⟩
      ·rw [q4] at hb'; cases a<;>simp [ad1] at hb'
      ·rw [q4] at hb'; simp only [ad1,Option.some.injEq] at hb'; subst hb'; rw [hb] at q5; cases q5),fun _ l hl hz=>(by
     match l,hl with
     | [y],_=>
      simp only [List.getD_cons_zero] at hz ⊢
      rw [(d.gone y hz).1]
      exact .sl0)⟩)
   rw [hput] at hu
   exact ⟨hu.1,hu.2.2⟩
theorem aZ2 {w0 X0 N m} (hnm:∀ k,X0.nm k≠none->k<m) {s s':St}{p:PrepA}(hp:am8 m N s p=some s') {a:Act}{w:World}(h:StR w0 X0 N s a w):StR w0 X0 N s' a w:=by
 obtain ⟨E,hrep,htr⟩:=h
 have tput:∀ {X:Nat->Prop}{E':Env}{τ:Tmps}{t:Nat}{v:SV},TR (X0.n0 w0) w X E' N τ a->(t<N->R w X E' v (a.tmps.getD t undef))->TR (X0.n0 w0) w X E' N ((t,v)::τ) a:=by
  intro X E' τ t v ht hv
  refine ⟨ht.1,ht.2.1,fun u hu=>?_⟩
  simp only [ac8]
  split
  ·rename_i hc; subst hc; exact hv hu
  ·exact ht.2.2 u hu
 cases p with
 | tmp t=>
  simp only [am8] at hp
  split at hp
  case h_2=>cases hp
  rename_i l hl
  split at hp
  case h_2=>cases hp
  rename_i v hv
  cases hp
  obtain ⟨g1,g2⟩:=ag6 _ _ _ hrep hl
  have htr':=htr.mono (w':=w) (fun _ _ _=>rfl) g2 (Env.le_refl _)
  exact ⟨E,g1,tput htr' fun ht=>up (ao3 g1 6 _ _ _ hv (htr'.2.2 t ht))⟩
 | cells k=>
  simp only [am8] at hp
  split at hp
  case h_2=>cases hp
  split at hp
  case h_2=>cases hp
  rename_i l hl
  split at hp
  case h_2=>cases hp
  rename_i n g T hk
  obtain ⟨hall,rfl⟩:=aa0 hp
  obtain ⟨g1,g2⟩:=ag6 _ _ _ hrep hl
  obtain ⟨g3,g4⟩:=g1.recell hk (g':=fun i=>(pur (ad9 s.H l) 6 (g i)).getD .any) fun i v hi hr=>up (ao3 g1 6 _ _ _ (ah7 (ad4 hall hi)) hr)
  exact ⟨E,g3,htr.mono (w':=w) (fun _ _ _=>rfl) (g2.trans g4) (Env.le_refl _)⟩
 | own t T n=>
  simp only [am8] at hp
  split at hp
  case h_2=>cases hp
  rename_i hl
  cases hp
  by_cases ht:t<N
  ·obtain ⟨ad,hv⟩:=aU0 (hl▸htr.2.2 t ht)
   obtain ⟨g1,g2,g3⟩:=hrep.empty n T ad
   exact ⟨_,g1,tput (htr.mono (w':=w) (fun _ _ _=>rfl) g2 g3) fun _=>by rw [hv]; exact .osl (Env.ab1 _ _ _) ⟨_,_,_,rfl⟩⟩
  ·obtain ⟨g1,g2,g3⟩:=hrep.empty n T none
   exact ⟨_,g1,tput (htr.mono (w':=w) (fun _ _ _=>rfl) g2 g3) fun hc=>absurd hc ht⟩
 | ownC k off T n=>
  simp only [am8] at hp
  split at hp
  case h_2=>cases hp
  rename_i m g T' hk
  split at hp
  case h_2=>cases hp
  rename_i hg
  obtain ⟨hlt,rfl⟩:=aa0 hp
  cases he:E k with
  | none=>
   obtain ⟨g1,g2,g3⟩:=hrep.empty n T none
   have hkl:k≠s.H.length:=by
    intro hc
    rw [hc,List.getD_eq_getElem?_getD,List.getElem?_eq_none (Nat.le_refl _)] at hk
    cases hk
   have he':(E.put s.H.length (.slc 0 (.slice none 0 0) (fun _=>none))) k=none:=by rw [Env.ad0 hkl]; exact he
   have hh:∀ j e,(E.put s.H.length (.slc 0 (.slice none 0 0) (fun _=>none))) j=some e->((s.H++[ag9 n T]).set k (.cells m (updF g off 1 (fun _=> .osl s.H.length 0)) T')).getD j .dead=(s.H++[ag9 n T]).getD j .dead:=
    fun j e hj=>aa3 (fun hc=>by subst hc; rw [he'] at hj; cases hj)
   refine ⟨_,g1.ext' (by simp) hh,?_⟩
   rw [ap2 hh]
   exact htr.mono (w':=w) (fun _ _ _=>rfl) g2 g3
  | some e=>
   have hok:=hrep.ok k e he
   rw [hk] at hok
   cases e with
   | slc=>exact hok.elim
   | blk b=>
    obtain ⟨vs,h1,h2,h3⟩:=hok
    obtain ⟨ad,hv⟩:=aU0 (hg▸(h3 off hlt).2)
    obtain ⟨g1,g2,g3⟩:=hrep.empty n T ad
    have hkl:k<s.H.length:=hrep.dom k _ he
    have hk':(s.H++[ag9 n T]).getD k .dead = .cells m g T':=by rw [ab6 hkl]; exact hk
    have hput:(E.put s.H.length (.slc 0 (.slice ad 0 0) (fun _=>none))) k=some (.blk b):=by rw [Env.ad0 (by omega)]; exact he
    have hself:(E.put s.H.length (.slc 0 (.slice ad 0 0) (fun _=>none))).put k (.blk b)=E.put s.H.length (.slc 0 (.slice ad 0 0) (fun _=>none)):=Env.af6 hput
    have hu:=g1.upd (w':=w) (e':= .blk b) (so':= .cells m (updF g off 1 (fun _=> .osl s.H.length 0)) T') hput (by rw [hself]; exact Env.le_refl _) (fun _ _ _=>rfl) rfl rfl rfl (Nat.le_refl _) (fun b' hb'=> .inl (by rw [hk']; exact hb'))
     (fun hke hwi _=>by
      rw [hself] at *
      refine ⟨vs,h1,h2,fun i hi=>⟨(h3 i hi).1,?_⟩⟩
      by_cases hio:off<=i/\i<off+1
      ·rw [aP6 hio]
       obtain rfl:i=off:=by omega
       rw [hv]
       exact .osl (Env.ab1 _ _ _) ⟨_,_,_,rfl⟩
      ·rw [aP5 hio]
       exact ((h3 i hi).2.mono (w':=w) (fun _ _ _=>rfl) g2 g3).mono hke hwi (Env.le_refl _))
    rw [hself] at hu
    exact ⟨_,hu.1,(htr.mono (w':=w) (fun _ _ _=>rfl) g2 g3).mono (w':=w) (fun _ _ _=>rfl) hu.2.2 (Env.le_refl _)⟩
 | shrink t=>
  simp only [am8] at hp
  split at hp
  case h_2=>cases hp
  rename_i hb
  have ht:t<N:=Nat.le_of_ble_eq_true hb
  split at hp
  case h_2=>cases hp
  rename_i k ver n lo len hl
  split at hp
  case h_2=>cases hp
  split at hp
  case h_2=>cases hp
  rename_i ver' len0 m g T hk
  obtain ⟨⟨rfl,rfl⟩,rfl⟩:=aa0 hp
  have hR:R w (Xo X0 E s.H) E (.win k ver n 0 len) (a.tmps.getD t undef):=hl▸htr.2.2 t ht
  generalize hvv:a.tmps.getD t undef=v at hR
  cases hR with
  | winOld he hlt hv=>
   have hok:=hrep.ok k _ he
   rw [hk] at hok
   have:=hok.1
   omega
  | win he hle ha h0=>
   rename_i a1 a0 len1 cap0 us
   have hok:=hrep.ok k _ he
   rw [hk] at hok
   obtain ⟨_,xs,hown,hcont⟩:=hok
   have hw:ah4 w T n (.slice a0 len cap0) len (xs.take (len*n))/\len<=len0:=by
    rcases hown with ⟨a',hv',rfl,rfl⟩ | ⟨b,cap,cur,hv',c1,c2,c3,c4,c5,c6⟩
    ·cases hv'
     obtain rfl:len=0:=by omega
     exact ⟨.inl ⟨_,rfl,rfl,by simp⟩,Nat.le_refl _⟩
    ·cases hv'
     have hm:=Nat.mul_le_mul_right n (show len<=len0 by omega)
     refine ⟨.inr ⟨b,cap,cur,rfl,c1,by omega,c3,c4,by rw [<-c5,List.take_take,Nat.min_eq_left hm],by rw [List.length_take,c6]; exact Nat.min_eq_left hm⟩,by omega⟩
   have hle2:E.le (E.put k (.slc (ver+1) (.slice a0 len cap0) us)):=by
    refine ⟨fun j b hj=>?_,fun j ver' v'' us'' hj=>?_⟩
    ·by_cases hjk:j=k
     ·subst hjk; rw [he] at hj; cases hj
     ·rw [Env.ad0 hjk]; exact hj
    ·by_cases hjk:j=k
     ·subst hjk
      rw [he] at hj
      cases hj
      exact ⟨_,_,_,Env.ab1 _ _ _,Nat.le_succ _,fun hc=>by omega⟩
     ·exact ⟨_,_,_,by rw [Env.ad0 hjk]; exact hj,Nat.le_refl _,fun _=>rfl⟩
   have hholds:∀ b,holds (.slc (ver+1) (.slice a0 len cap0) us) (.row (ver+1) len n g T) b->holds (.slc ver (.slice a0 len1 cap0) us) (s.H.getD k .dead) b:=by
    intro b hb
    rw [hk]
    cases a0<;>cases cap0<;>exact hb
   have hu:=hrep.upd (w':=w) (e':= .slc (ver+1) (.slice a0 len cap0) us) (so':= .row (ver+1) len n g T) he hle2 (fun _ _ _=>rfl) rfl rfl rfl (Nat.le_refl _) (fun b hb'=> .inl (hholds b hb'))
    (fun hke hwi _=>⟨rfl,_,hw.1,fun i j hi hj=>by
     rw [show (xs.take (len*n)).getD (i*n+j) undef=xs.getD (i*n+j) undef by
      rw [List.getD_eq_getElem?_getD,List.getElem?_take,if_pos (ac2 hi hj),List.getD_eq_getElem?_getD]]
     exact ⟨(hcont i j (by omega) hj).1,(hcont i j (by omega) hj).2.mono hke hwi (Env.le_refl _)⟩⟩)
   refine ⟨_,hu.1,tput (htr.mono (w':=w) (fun _ _ _=>rfl) hu.2.2 hle2) fun _=>?_⟩
   have hv0:a1=a0:=h0 rfl
   subst hv0
   rw [hvv]
   exact .osl (Env.ab1 _ _ _) ⟨_,_,_,rfl⟩
 | nilc t=>cases hp
 | mv j k=>
  simp only [am8] at hp
  split at hp
  case h_2=>cases hp
  rename_i hb
  cases hp
  simp only [Bool.and_eq_true,Bool.not_eq_true'] at hb
  obtain ⟨⟨h1,h2⟩,h3,h4⟩:=hb
  obtain ⟨g1,g2⟩:=hrep.ren hnm (Nat.le_of_ble_eq_true h1) (Nat.le_of_ble_eq_true h2) (Nat.le_of_ble_eq_true h3) (Nat.ne_of_beq_eq_false h4)
  refine ⟨_,g1,htr.1,htr.2.1.mono (fun _ _ _=>rfl) (fun b _ hb=>g2 b hb),fun t ht=>?_⟩
  rw [aX3 (f:=ren j k) rfl]
  exact R_ren g2 (Nat.ne_of_beq_eq_false h4) (htr.2.2 t ht)
 | deepen k c T'=>
  simp only [am8] at hp
  split at hp
  case h_2=>cases hp
  rename_i ver len n g T hk
  split at hp
  case h_2=>cases hp
  rename_i n
  cases hp
  cases he:E k with
  | none=>
   have hh:∀ j e,E j=some e->(s.H.set k (.deep ver 0 (n+1) c (fun _=>0) (fun _ _ _=> .any) (fun _ _=> .any) T T' none)).getD j .dead=s.H.getD j .dead:=fun j e hj=>aa3 (fun hc=>by subst hc; rw [he] at hj; cases hj)
   refine ⟨E,hrep.ext' (by simp) hh,?_⟩
   rw [ap2 hh]
   exact htr
  | some e=>
   have hok:=hrep.ok k e he
   rw [hk] at hok
   cases e with
   | blk=>exact hok.elim
   | slc ver' v us=>
    obtain ⟨rfl,xs,hown,_⟩:=hok
    have hput:E.put k (.slc ver' v us)=E:=Env.af6 he
    have hu:=hrep.upd (w':=w) (e':= .slc ver' v us) (so':= .deep ver' 0 (n+1) c (fun _=>0) (fun _ _ _=> .any) (fun _ _=> .any) T T' none) he (by rw [hput]; exact Env.le_refl _) (fun _ _ _=>rfl) rfl rfl rfl (Nat.le_refl _)
     (fun b hb=>by
      rcases hb with hb | ⟨i,hi,_⟩
      ·exact .inl (by rw [hk]; exact hb)
      ·exact absurd hi (Nat.not_lt_zero _))
     (fun _ _ _=>⟨rfl,xs,Nat.succ_pos _,hown,fun i j hi=>absurd hi (Nat.not_lt_zero _),fun i sv hi=>absurd hi (Nat.not_lt_zero _),fun i hi=>absurd hi (Nat.not_lt_zero _),fun i b hi=>absurd hi (Nat.not_lt_zero _),fun i i' b hi=>absurd hi (Nat.not_lt_zero _)⟩)
    rw [hput] at hu
    exact ⟨E,hu.1,htr.mono (w':=w) (fun _ _ _=>rfl) hu.2.2 (Env.le_refl _)⟩
 | focus k t=>
  simp only [am8] at hp
  split at hp
  case h_2=>cases hp
  rename_i kd i hl
  split at hp
  case h_2=>cases hp
  rename_i ver len n c m p g T T' ho hk
  split at hp
  case h_2=>cases hp
  cases hp
  obtain ⟨E2,hle,g1,g2⟩:=hrep.focus hk i.toNat
  exact ⟨E2,g1,htr.mono (w':=w) (fun _ _ _=>rfl) (fun b _ hb=>g2 b hb) hle⟩
 | aP7 k=>
  simp only [am8] at hp
  split at hp
  case h_2=>cases hp
  rename_i ver len n c m p g T T' ho hk
  split at hp
  case h_2=>cases hp
  rename_i h sv
  split at hp
  ·rename_i K ver'
   split at hp
   case h_2=>cases hp
   rename_i ver2 len2 c2 g2 T2 hK
   obtain ⟨⟨⟨⟨rfl,rfl⟩,rfl⟩,hne⟩,rfl⟩:=aa0 hp
   obtain ⟨E2,hle,g1,g2⟩:=hrep.aP7 hk hK hne
   exact ⟨E2,g1,htr.mono (w':=w) (fun _ _ _=>rfl) (fun b _ hb=>g2 b hb) hle⟩
  ·cases hp
   obtain ⟨E2,hle,g1,g2⟩:=hrep.unfocus0 hk
   exact ⟨E2,g1,htr.mono (w':=w) (fun _ _ _=>rfl) (fun b _ hb=>g2 b hb) hle⟩
  ·cases hp
 | focusM k t=>
  simp only [am8] at hp
  split at hp
  case h_2=>cases hp
  rename_i kd i hl
  split at hp
  case h_2=>cases hp
  rename_i kd has c m p T' ho hk
  split at hp
  case h_2=>cases hp
  cases hp
  obtain ⟨E2,hle,g1,g2⟩:=hrep.focusM hk i
  exact ⟨E2,g1,htr.mono (w':=w) (fun _ _ _=>rfl) (fun b _ hb=>g2 b hb) hle⟩
 | aD4 k=>
  simp only [am8] at hp
  split at hp
  case h_2=>cases hp
  rename_i kd has c m p T' ho hk
  split at hp
  case h_2=>cases hp
  rename_i q
  obtain ⟨h,sv,fl⟩:=q
  simp only at hp
  split at hp
  case h_2=>cases hp
  rename_i K ver'
  split at hp
  case h_2=>cases hp
  rename_i ver2 len2 c2 g2 T2 hK
  obtain ⟨⟨⟨⟨rfl,rfl⟩,rfl⟩,hne,rfl⟩,rfl⟩:=aa0 hp
  obtain ⟨E2,hle,g1,g2⟩:=hrep.aD4 hk hK hne
  exact ⟨E2,g1,htr.mono (w':=w) (fun _ _ _=>rfl) (fun b _ hb=>g2 b hb) hle⟩
 | aS0 k=>
  simp only [am8] at hp
  split at hp
  case h_2=>cases hp
  rename_i kd has c m p T' ho hk
  split at hp
  case h_2=>cases hp
  cases hp
  obtain ⟨g1,g2⟩:=hrep.aS0 hk
  exact ⟨E,g1,htr.mono (w':=w) (fun _ _ _=>rfl) g2 (Env.le_refl _)⟩
 | give k=>
  simp only [am8] at hp
  split at hp
  case h_2=>cases hp
  rename_i so hk
  cases hp
  obtain ⟨g1,g2⟩:=aN9 hrep hk
  exact ⟨E,g1,htr.mono (w':=w) (fun _ _ _=>rfl) g2 (Env.le_refl _)⟩
theorem aW8 {w0 X0 N} {s s1 s2:St}{t len:Nat}(hp:nilAlt N s t=some (len,s1,s2)) {a:Act}{w:World}(h:StR w0 X0 N s a w):(len=0/\StR w0 X0 N s1 a w)\/StR w0 X0 N s2 a w:=by
 obtain ⟨E,hrep,htr⟩:=h
 simp only [nilAlt] at hp
 split at hp
 case h_2=>cases hp
 rename_i hb
 have ht:t<N:=Nat.le_of_ble_eq_true hb
 split at hp
 case h_2=>cases hp
 rename_i len' n g hl
 cases hp
 have hR:=htr.2.2 t ht
 rw [hl] at hR
 have put:∀ {sv:SV},R w (Xo X0 E s.H) E sv (a.tmps.getD t undef)->TR (X0.n0 w0) w (Xo X0 E s.H) E N ((t,sv)::s.τ) a:=by
  intro sv hv
  refine ⟨htr.1,htr.2.1,fun u hu=>?_⟩
  simp only [ac8]
  split
  ·rename_i hc; subst hc; exact hv
  ·exact htr.2.2 u hu
 generalize hvv:a.tmps.getD t undef=v at hR
 rw [hvv] at put
 obtain ⟨ad,cap,rfl⟩:=aO9 hR
 cases ad with
 | some ad=>exact .inr ⟨E,hrep,put (.slN hR)⟩
 | none=>
  cases hR
  exact .inl ⟨rfl,E,hrep,put .nilsl⟩
theorem al6 {w0 X0 N m} (hnm:∀ k,X0.nm k≠none->k<m) {a:Act}{w:World}:∀ {l:List PrepA}{s s':St},aq6 m N s l=some s'->StR w0 X0 N s a w->StR w0 X0 N s' a w
 | [],s,s',h,hs=>by simp only [aq6,Option.some.injEq] at h; subst h; exact hs
 | p::r,s,s',h,hs=>by
  simp only [aq6] at h
  split at h
  ·exact al6 hnm h (aZ2 hnm (by assumption) hs)
  ·cases h
end Go.Proofs.YthappngbapbkfaaGreat.Sx
