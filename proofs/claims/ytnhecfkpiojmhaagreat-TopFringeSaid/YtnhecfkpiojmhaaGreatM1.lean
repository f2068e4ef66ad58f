/- Part 1. -/
import Derived.WalkSpells
import Derived.WalkLawsBesides
import Derived.Handy
import Derived.Lib.Hide
import Derived.Deep.RegionHeld3
import Derived.StillTailTactics
import Derived.OrdersIn
import Derived.LoopNIn
import Derived.Sort.LoopGhostIn
import Derived.RangeFuncCalls
import Derived.Conc.Beside
import Derived.Test.YtnhecfkpiojmhaaGreatProg
import Derived.Shelf.SlSortCmp.NoneTotal
import Derived.Conc.LoneCalls
import Derived.Conc.CrowdComm
import Derived.Lib.BoundsPanic
import Derived.Conc.LeavingOf
import Derived.Test.YtnhecfkpiojmhaaGreatChecked
set_option linter.all false
namespace Go.Proofs.YtnhecfkpiojmhaaGreat
theorem rk:type_of% @Go.Result.andThen_ok:=@Go.Result.andThen_ok
theorem sk{α:Type _}(a b:α):(some a=some b)=(a=b):=Option.some.injEq a b
theorem sj{α:Type _}{a b:α}(h:some a=some b):a=b:=Option.some.inj h
theorem la:type_of% @List.getD_eq_getElem?_getD:=@List.getD_eq_getElem?_getD
theorem lc:type_of% @Array.getD_eq_getD_getElem?:=@Array.getD_eq_getD_getElem?
theorem lf:type_of% @decide_eq_false:=@decide_eq_false
theorem lg:type_of% @decide_eq_true:=@decide_eq_true
theorem lh:type_of% @Nat.le_refl:=@Nat.le_refl
theorem li:type_of% @Array.getElem?_eq_some_iff:=@Array.getElem?_eq_some_iff
theorem lj:type_of% @Array.getElem?_setIfInBounds_ne:=@Array.getElem?_setIfInBounds_ne
theorem lk:type_of% @Nat.mul_le_mul_right:=@Nat.mul_le_mul_right
theorem ll:type_of% @if_pos:=@if_pos
theorem lm:type_of% @Array.getElem?_setIfInBounds_self_of_lt:=@Array.getElem?_setIfInBounds_self_of_lt
theorem ln:type_of% @Nat.not_lt_zero:=@Nat.not_lt_zero
theorem lr:type_of% @Bool.and_eq_true:=@Bool.and_eq_true
theorem lu:type_of% @if_neg:=@if_neg
theorem lw:type_of% @List.getElem?_eq_getElem:=@List.getElem?_eq_getElem
theorem lx:type_of% @List.length_append:=@List.length_append
theorem ly:type_of% @Int.toNat_natCast:=@Int.toNat_natCast
theorem lz:type_of% @Classical.byContradiction:=@Classical.byContradiction
theorem lB:type_of% @Nat.zero_le:=@Nat.zero_le
theorem lC:type_of% @Array.length_toList:=@Array.length_toList
theorem lD:type_of% @Option.map_some:=@Option.map_some
theorem lE:type_of% @decide_eq_true_eq:=@decide_eq_true_eq
theorem lF:type_of% @Array.getElem?_eq_getElem:=@Array.getElem?_eq_getElem
theorem lG:type_of% @List.mem_range:=@List.mem_range
theorem lH:type_of% @Bool.false_eq_true:=@Bool.false_eq_true
theorem lI:type_of% @Nat.zero_add:=@Nat.zero_add
theorem lJ:type_of% @Go.Conc.mem_ofEvents:=@Go.Conc.mem_ofEvents
theorem lK:type_of% @Nat.eq_of_beq_eq_true:=@Nat.eq_of_beq_eq_true
theorem lL:type_of% @Nat.add_mul:=@Nat.add_mul
theorem lM:type_of% @Array.getElem?_toList:=@Array.getElem?_toList
theorem lN:type_of% @Nat.le_of_ble_eq_true:=@Nat.le_of_ble_eq_true
theorem lO:type_of% @Bool.or_false:=@Bool.or_false
theorem lP:type_of% @List.mem_cons_self:=@List.mem_cons_self
theorem lQ:type_of% @Nat.lt_of_lt_of_le:=@Nat.lt_of_lt_of_le
theorem lR:type_of% @List.getElem?_append_right:=@List.getElem?_append_right
theorem lS:type_of% @List.mem_cons_of_mem:=@List.mem_cons_of_mem
theorem lT:type_of% @List.getElem?_eq_some_iff:=@List.getElem?_eq_some_iff
theorem lU:type_of% @Nat.le_trans:=@Nat.le_trans
theorem lV:type_of% @Nat.add_zero:=@Nat.add_zero
theorem lW:type_of% @List.getElem?_map:=@List.getElem?_map
theorem lX:type_of% @List.mem_map:=@List.mem_map
theorem lY:type_of% @List.length_map:=@List.length_map
theorem lZ:type_of% @Option.getD_some:=@Option.getD_some
theorem xc:type_of% @Array.getElem?_map:=@Array.getElem?_map
theorem xd:type_of% @List.all_eq_true:=@List.all_eq_true
theorem xe:type_of% @List.mem_cons:=@List.mem_cons
theorem xf:type_of% @Nat.add_assoc:=@Nat.add_assoc
theorem xg:type_of% @Bool.or_eq_true:=@Bool.or_eq_true
theorem xh:type_of% @List.getElem?_append_left:=@List.getElem?_append_left
theorem xi:type_of% @List.not_mem_nil:=@List.not_mem_nil
theorem xj:type_of% @if_true:=@if_true
theorem xk:type_of% @Array.getElem?_append_left:=@Array.getElem?_append_left
theorem xl:type_of% @Option.map_eq_some_iff:=@Option.map_eq_some_iff
theorem xm:type_of% @List.mem_of_getElem?:=@List.mem_of_getElem?
theorem xn:type_of% @if_false:=@if_false
theorem xp:type_of% @Int.le_refl:=@Int.le_refl
theorem xq:type_of% @Array.getElem?_push:=@Array.getElem?_push
theorem xr:type_of% @Array.getElem?_append_right:=@Array.getElem?_append_right
theorem xt:type_of% @Nat.lt_irrefl:=@Nat.lt_irrefl
theorem xu:type_of% @List.length_take:=@List.length_take
theorem xv:type_of% @List.getElem_mem:=@List.getElem_mem
theorem xw:type_of% @List.size_toArray:=@List.size_toArray
theorem xx:type_of% @List.getElem?_drop:=@List.getElem?_drop
theorem xy:type_of% @List.mem_singleton:=@List.mem_singleton
theorem xz:type_of% @Nat.zero_mul:=@Nat.zero_mul
theorem xA:type_of% @Int.ofNat_eq_natCast:=@Int.ofNat_eq_natCast
theorem xB:type_of% @Nat.eq_zero_or_pos:=@Nat.eq_zero_or_pos
theorem xC:type_of% @List.getElem?_eq_none:=@List.getElem?_eq_none
theorem xD:type_of% @Nat.lt_succ_self:=@Nat.lt_succ_self
theorem xE:type_of% @Array.mem_toList_iff:=@Array.mem_toList_iff
theorem xF:type_of% @Nat.succ_pos:=@Nat.succ_pos
theorem xG:type_of% @Ne.symm:=@Ne.symm
theorem xH:type_of% @List.length_drop:=@List.length_drop
theorem xI:type_of% @List.getElem?_toArray:=@List.getElem?_toArray
theorem xJ:type_of% @List.length_singleton:=@List.length_singleton
theorem xK:type_of% @List.append_assoc:=@List.append_assoc
theorem xL:type_of% @Nat.lt_trichotomy:=@Nat.lt_trichotomy
theorem xM:type_of% @Nat.add_sub_cancel_left:=@Nat.add_sub_cancel_left
theorem xN:type_of% @List.length_dropLast:=@List.length_dropLast
theorem xO:type_of% @Nat.mul_comm:=@Nat.mul_comm
theorem xP:type_of% @decide_eq_decide:=@decide_eq_decide
theorem xQ:type_of% @List.map_cons:=@List.map_cons
theorem xR:type_of% @List.getElem?_take:=@List.getElem?_take
theorem xS:type_of% @Nat.mod_lt:=@Nat.mod_lt
theorem xU:type_of% @List.length_cons:=@List.length_cons
theorem xV:type_of% @Option.getD_none:=@Option.getD_none
theorem xW:type_of% @decide_eq_false_iff_not:=@decide_eq_false_iff_not
theorem xX:type_of% @Array.getElem?_eq_none:=@Array.getElem?_eq_none
theorem xY:type_of% @Array.getElem?_eq_none_iff:=@Array.getElem?_eq_none_iff
theorem xZ:type_of% @Array.size_eq_zero_iff:=@Array.size_eq_zero_iff
theorem ud:type_of% @Nat.le_succ_of_le:=@Nat.le_succ_of_le
theorem ue:type_of% @Nat.mul_le_mul:=@Nat.mul_le_mul
theorem uf:type_of% @List.getD_cons_zero:=@List.getD_cons_zero
theorem ug:type_of% @List.mem_append:=@List.mem_append
theorem uh:type_of% @Array.getElem?_modify:=@Array.getElem?_modify
theorem ui:type_of% @Array.mem_iff_getElem:=@Array.mem_iff_getElem
theorem uj:type_of% @Bool.not_eq_true:=@Bool.not_eq_true
theorem uk:type_of% @Nat.lt_or_ge:=@Nat.lt_or_ge
theorem ul:type_of% @List.getElem?_take_of_lt:=@List.getElem?_take_of_lt
theorem um:type_of% @List.length_set:=@List.length_set
theorem uo:type_of% @Bool.eq_iff_iff:=@Bool.eq_iff_iff
theorem uq:type_of% @Nat.succ_mul:=@Nat.succ_mul
theorem ur:type_of% @cond_true:=@cond_true
theorem ut:type_of% @Nat.lt_or_gt_of_ne:=@Nat.lt_or_gt_of_ne
theorem uu:type_of% @List.pairwise_iff_getElem:=@List.pairwise_iff_getElem
theorem uv:type_of% @Nat.min_eq_left:=@Nat.min_eq_left
theorem uw:type_of% @Nat.zero_lt_one:=@Nat.zero_lt_one
theorem ux:type_of% @Nat.mul_one:=@Nat.mul_one
theorem uy:type_of% @Array.size_modify:=@Array.size_modify
theorem uz:type_of% @List.getElem?_range:=@List.getElem?_range
theorem uA:type_of% @List.length_eq_zero_iff:=@List.length_eq_zero_iff
theorem uB:type_of% @Array.eq_empty_of_size_eq_zero:=@Array.eq_empty_of_size_eq_zero
theorem uC:type_of% @List.getElem?_cons_zero:=@List.getElem?_cons_zero
theorem uD:type_of% @Nat.one_mul:=@Nat.one_mul
theorem uE:type_of% @Nat.sub_self:=@Nat.sub_self
theorem uF:type_of% @Nat.ne_of_beq_eq_false:=@Nat.ne_of_beq_eq_false
theorem uG:type_of% @List.length_nil:=@List.length_nil
theorem uH:type_of% @Option.map_none:=@Option.map_none
theorem uI:type_of% @Nat.ble_eq_true_of_le:=@Nat.ble_eq_true_of_le
theorem uJ:type_of% @Bool.not_eq_true':=@Bool.not_eq_true'
theorem uK:type_of% @List.idxOf_lt_length_of_mem:=@List.idxOf_lt_length_of_mem
theorem uL:type_of% @List.mem_iff_getElem:=@List.mem_iff_getElem
theorem uM:type_of% @Nat.not_lt:=@Nat.not_lt
theorem uN:type_of% @Nat.mod_eq_of_lt:=@Nat.mod_eq_of_lt
theorem uO:type_of% @List.any_eq_true:=@List.any_eq_true
theorem uP:type_of% @List.cons_append:=@List.cons_append
theorem uQ:type_of% @Nat.le_add_right:=@Nat.le_add_right
theorem uR:type_of% @List.map_congr_left:=@List.map_congr_left
theorem uS:type_of% @Nat.mul_le_mul_left:=@Nat.mul_le_mul_left
theorem uT:type_of% @List.append_nil:=@List.append_nil
theorem uU:type_of% @Iff.rfl:=@Iff.rfl
theorem uV:type_of% @List.foldl_cons:=@List.foldl_cons
theorem uW:type_of% @List.nil_append:=@List.nil_append
theorem uX:type_of% @Int.le_antisymm:=@Int.le_antisymm
theorem uY:type_of% @List.pairwise_cons:=@List.pairwise_cons
theorem uZ:type_of% @Array.empty_append:=@Array.empty_append
theorem laa:type_of% @Option.isNone_some:=@Option.isNone_some
theorem lab:type_of% @Nat.le_succ:=@Nat.le_succ
theorem lac:type_of% @List.filter_cons_of_neg:=@List.filter_cons_of_neg
theorem lad:type_of% @List.filter_cons_of_pos:=@List.filter_cons_of_pos
theorem lae:type_of% @List.mapM_cons:=@List.mapM_cons
theorem laf:type_of% @and_true:=@and_true
theorem lag:type_of% @not_true_eq_false:=@not_true_eq_false
theorem lah:type_of% @Nat.sub_zero:=@Nat.sub_zero
theorem lai:type_of% @List.length_range:=@List.length_range
theorem laj:type_of% @Array.toList_push:=@Array.toList_push
theorem lak:type_of% @Bool.and_false:=@Bool.and_false
theorem lal:type_of% @Array.all_eq_true:=@Array.all_eq_true
theorem lam:type_of% @List.ext_getElem:=@List.ext_getElem
theorem lan:type_of% @Option.bind_some:=@Option.bind_some
theorem lao:type_of% @List.all_cons:=@List.all_cons
theorem lap:type_of% @Bool.true_and:=@Bool.true_and
theorem laq:type_of% @Bool.false_or:=@Bool.false_or
theorem lar:type_of% @true_and:=@true_and
section
open Go.RowKit
theorem ci5{w:World}{b off:Nat}{s:Option Nat}{v:Value}(h:w.cell? ⟨b,off,s⟩=some v):b<w.heap.size/\s=none:=by
 unfold World.cell? at h;refine⟨?_,?_⟩
 ·refine Nat.not_le.1 λhc=>?_
  rw[xX hc]at h;exact absurd h (by simp)
 ·split at h
  ·split at h
   ·exact absurd h (by simp)
   ·cases s<;>simp_all
  ·exact absurd h (by simp)
end
section
open Go.RowKit Go.ChangeShapes Go.WideShapes Go.ChangeAt
variable {H:Type}{enc:TypeId×Value->H}{P:Program}
theorem aA9(hl:laidOutB P=true){W W':World}(hb:Below W.heap.size W W'):∀(ts:List TypeId)(vs:List Value)(ds:List (DataW H))(ps:List MemPlace),
  (ts.all λt=>P.readableRec t&&decide (t<P.types.size))=true->DataW.TrodAll enc P W 0 (λ_=>true) true ts vs ds ps->(∀x∈ps,x.block<W.heap.size)->
  DataW.TrodAll enc P W' 0 (λb=>decide (b<W.heap.size)) true ts vs ds ps
 | [],[],[],_,_,h,_=>h
 |t::ts,v::vs,d::ds,ps,hr,h,hlt=>by
  obtain⟨p,q,h1,h2,rfl⟩:=h;simp only[lao,lr,lE]at hr;exact⟨p,q,Below.trod hl hr.1.1 hr.1.2 h1 hb (λx hx=>hlt x (List.mem_append_left _ hx)),aA9 hl hb ts vs ds q hr.2 h2 (λx hx=>hlt x (List.mem_append_right _ hx)),rfl⟩
 | [],[],_::_,_,_,h,_=>h.elim
 | [],_::_,_,_,_,h,_=>h.elim
 |_::_,[],_,_,_,h,_=>h.elim
 |_::_,_::_,[],_,_,h,_=>h.elim
theorem bZ3{f:Func}{s:ChangeSpec}{W W':World}{args:Array Value}{ds gs:List (DataW H)}{before:List MemPlace}{tb:TypeId}
  (hl:laidOutB P=true) (hr:(f.params.toList.all λt=>P.readableRec t&&decide (t<P.types.size))=true)
  (hres:f.resultTypes = #[tb]) (hb:P.underlying tb=some .bool) (hvars:s.vars=[])
  (hW:DataW.Whole enc P f.params.toList s.vars false W args.toList ds gs before)
  (hs:s.fn H (ds++gs)={results:=[.lit (.bool true)],args:=ds}) (hbl:Below W.heap.size W W'):
  s.post enc P f false true false false W args (.bool true) W':=by
 have hW':=hW;obtain⟨p,q,hA,hV,hbq,hz,hn⟩:=hW;rw[hvars]at hV;obtain⟨rfl,rfl⟩:=trodVars_none hV;rw[uT]at hbq;subst hbq;refine⟨ds,[],before,[],before,[],hW',?_,?_,?_,?_,λh=>by cases h⟩
 ·rw[hs,hres];exact trodAll_mk1 (shut_bool hb _)
 ·rw[hs];exact aA9 hl hbl _ _ _ _ hr hA (λx hx=>hW'.lt x hx)
 ·rw[hs,hvars];exact rfl
 ·exact hbl.frame _
def Leaf(P:Program)(w:World)(t:TypeId)(v:Value):Prop:=∃(H:Type)(enc:TypeId×Value->H)(fuel:Nat)(x:DataW H×List MemPlace),DataW.trod enc P w 0 (λ_=>true) true fuel t [v]=some x
def aG2(P:Program)(rec:TypeId->Option (List TypeId)):List Field->Nat->Option (List TypeId)
 | [],_=>some []
 |f::fs,pos=>
  if f.offset=pos then
   match rec f.type with
   |some l=>if l.length=P.cellsOf f.type then(aG2 P rec fs (pos+l.length)).map (l++·)else none
   |none=>none
  else none
def leaves(P:Program):Nat->TypeId->Option (List TypeId)
 |0,_=>none
 |n+1,t=>
  match P.underlying t with
  |some (.struct fs)=>match aG2 P (leaves P n) fs.toList 0 with|some l=>if l.length=P.cellsOf t then some l else none|none=>none
  |some (.array m e)=>match leaves P n e with|some l=>if l.length=P.cellsOf e/\m*l.length=P.cellsOf t then some (List.replicate m l).flatten else none|none=>none
  |some .bool|some (.int _)|some .string|some (.slice _)=>some [t]
  |_=>none
theorem aM5{α β:Type}{f:α->Option β}:∀{l:List α}{ys:List β},l.mapM f=some ys->∀x∈l,∃y,f x=some y
 | [],_,_,x,hx=>by cases hx
 |a::l,ys,h,x,hx=>by
  rw[lae]at h;cases ha:f a with
  |none=>rw[ha]at h;exact absurd h (by simp)
  |some b=>
   rw[ha]at h;cases hl:l.mapM f with
   |none=>rw[hl]at h;exact absurd h (by simp)
   |some bs=>
    rcases xe.1 hx with rfl|hx
    ·exact⟨b,ha⟩
    ·exact aM5 hl x hx
def All2{α β:Type}(R:α->β->Prop):List α->List β->Prop
 | [],[]=>True
 |a::l,b::m=>R a b/\All2 R l m
 |_,_=>False
theorem All2.cons_inv{α β:Type}{R:α->β->Prop}{a:α}{r:List α}:∀{l:List β},All2 R (a::r) l->∃b bs,l=b::bs/\R a b/\All2 R r bs
 |b::bs,h=>⟨b,bs,rfl,h.1,h.2⟩
 | [],h=>h.elim
theorem All2.bN2{α β:Type}{R:α->β->Prop}:∀{l:List β},All2 R ([]:List α) l->l=[]
 | [],_=>rfl
 |_::_,h=>h.elim
theorem All2.append{α β:Type}{R:α->β->Prop}:∀{a:List α}{b:List β}{c:List α}{d:List β},All2 R a b->All2 R c d->All2 R (a++c) (b++d)
 | [],[],_,_,_,h=>h
 |_::_,_::_,_,_,h1,h=>⟨h1.1,All2.append h1.2 h⟩
 | [],_::_,_,_,h,_=>h.elim
 |_::_,[],_,_,h,_=>h.elim
theorem All2.length{α β:Type}{R:α->β->Prop}:∀{a:List α}{b:List β},All2 R a b->a.length=b.length
 | [],[],_=>rfl
 |_::_,_::_,h=>by simp[All2.length h.2]
 | [],_::_,h=>h.elim
 |_::_,[],h=>h.elim
theorem aJ4{rec:TypeId->Option (List TypeId)}{R:TypeId->Value->Prop}{T:Field->List Value->Prop}
  (hT:∀f l cs,rec f.type=some l->T f cs->All2 R l cs) (cs:List Value):∀(fs:List Field)(pos:Nat)(ls:List TypeId),aG2 P rec fs pos=some ls->cs.length=pos+ls.length->
  (∀f∈fs,T f ((cs.drop f.offset).take (P.cellsOf f.type)))->All2 R ls (cs.drop pos)
 | [],pos,ls,h,hlen,_=>by
  simp only[aG2,sk]at h;subst h;rw[List.drop_eq_nil_of_le (by simp at hlen;omega)];exact trivial
 |f::fs,pos,ls,h,hlen,hf=>by
  unfold aG2 at h;split at h
  ·rename_i ho;split at h
   ·rename_i l hl;split at h
    ·rename_i hc;cases hr:aG2 P rec fs (pos+l.length)with
     |none=>rw[hr]at h;exact absurd h (by simp)
     |some r=>
      rw[hr]at h;simp only[lD,sk]at h;subst h;rw[lx]at hlen;have h1:=hT f l _ hl (hf f (lP ..));rw[ho,<-hc]at h1;have h2:=aJ4 hT cs fs (pos+l.length) r hr (by omega) (λg hg=>hf g (lS _ hg));have e:cs.drop pos=(cs.drop pos).take l.length++cs.drop (pos+l.length):=by rw[<-List.drop_drop,List.take_append_drop]
      rw[e];exact All2.append h1 h2
    ·exact absurd h (by simp)
   ·exact absurd h (by simp)
  ·exact absurd h (by simp)
theorem aJ5{R:TypeId->Value->Prop}(l:List TypeId)(k:Nat)(hk:l.length=k):∀(m:Nat)(cs:List Value),cs.length=m*k->
  (∀i<m,All2 R l ((cs.drop (i*k)).take k))->All2 R (List.replicate m l).flatten cs
 |0,cs,hlen,_=>by
  have:cs=[]:=uA.1 (by omega)
  subst this;exact trivial
 |m+1,cs,hlen,h=>by
  rw[List.replicate_succ,List.flatten_cons,<-List.take_append_drop k cs];have hm:(m+1)*k=m*k+k:=uq m k;refine All2.append ?_ (aJ5 l k hk m _ (by rw[xH];omega) λi hi=>?_)
  ·have:=h 0 (by omega)
   rwa[xz,List.drop_zero]at this
  ·have:=h (i+1) (by omega)
   rwa[List.drop_drop,show k+i*k=(i+1)*k by rw[uq];omega]
theorem ar0{w:World}:∀(n:Nat)(t:TypeId)(ls:List TypeId)(fuel:Nat)(cs:List Value)(x:DataW H×List MemPlace),leaves P n t=some ls->
  DataW.trod enc P w 0 (λ_=>true) true fuel t cs=some x->All2 (Leaf P w) ls cs
 |0,_,_,_,_,_,h,_=>by exact absurd h (by simp[leaves])
 |n+1,t,ls,0,cs,x,_,h=>by exact absurd h (by simp[DataW.trod])
 |n+1,t,ls,fuel+1,cs,x,hl,h=>by
  have h0:=h;unfold leaves at hl;unfold DataW.trod at h;cases hu:P.underlying t with
  |none=>rw[hu]at hl;exact absurd hl (by simp)
  |some d=>
   rw[hu]at hl h;cases d with
   |struct fs=>
    simp only at hl h
    split at hl
    ·rename_i l hlf;split at hl
     ·rename_i hc;simp only[sk]at hl;subst hl;split at h
      ·rename_i hlen;cases hm:fs.toList.mapM λf=>DataW.trod enc P w 0 (λ_=>true) true fuel f.type ((cs.drop f.offset).take (P.cellsOf f.type))with
       |none=>rw[hm]at h;exact absurd h (by simp)
       |some xs=>
        have:=aJ4 (P:=P) (R:=Leaf P w) (T:=λf c=>∃y,DataW.trod enc P w 0 (λ_=>true) true fuel f.type c=some y)
         (λf l' c hl' ⟨y,hy⟩=>ar0 n f.type l' fuel c y hl' hy) cs fs.toList 0 l hlf (by omega) (λf hf=>aM5 hm f hf)
        rwa[List.drop_zero]at this
      ·exact absurd h (by simp)
     ·exact absurd hl (by simp)
    ·exact absurd hl (by simp)
   |array m e=>
    simp only at hl h
    split at hl
    ·rename_i l hle;split at hl
     ·rename_i hc;simp only[sk]at hl;subst hl;split at h
      ·rename_i hlen;cases hm:(List.range m).mapM λi=>DataW.trod enc P w 0 (λ_=>true) true fuel e ((cs.drop (i*P.cellsOf e)).take (P.cellsOf e))with
       |none=>rw[hm]at h;exact absurd h (by simp)
       |some xs=>
        refine aJ5 l (P.cellsOf e) hc.1 m cs (by rw[hlen,<-hc.2,hc.1]) λi hi=>?_
        obtain⟨y,hy⟩:=aM5 hm i (lG.2 hi);exact ar0 n e l fuel _ y hle hy
      ·exact absurd h (by simp)
     ·exact absurd hl (by simp)
    ·exact absurd hl (by simp)
   |bool|int|string|slice=>
    simp only[sk]at hl;subst hl;match cs,h with
    | [v],_=>exact⟨⟨H,enc,fuel+1,x,h0⟩,trivial⟩
    | [],h=>exact absurd h (by simp)
    |_::_::_,h=>exact absurd h (by simp)
   |_=>exact absurd hl (by simp)
theorem a52{w:World}{t:TypeId}{k:IntKind}{v:Value}(hu:P.underlying t=some (.int k))(h:Leaf P w t v):∃n,v=.int k n/\(Lit.int k n).wf=true:=by
 obtain⟨H,enc,fuel,x,hx⟩:=h;obtain⟨n,h1,_,h2⟩:=DataW.trod_int hu hx;simp only[List.cons.injEq,laf]at h1;exact⟨n,h1,h2⟩
def Elem(P:Program)(w:World)(e:TypeId)(cs:List Value):Prop:=∃(H:Type)(enc:TypeId×Value->H)(fuel:Nat)(x:DataW H×List MemPlace),DataW.trod enc P w 0 (λ_=>true) true fuel e cs=some x
theorem bp2{w:World}{n:Nat}{e:TypeId}{ls:List TypeId}{cs:List Value}(hl:leaves P n e=some ls)(h:Elem P w e cs):All2 (Leaf P w) ls cs:=by
 obtain⟨H,enc,fuel,x,hx⟩:=h;exact ar0 n e ls fuel cs x hl hx
theorem bB5{w:World}{t e:TypeId}{v:Value}(hu:P.underlying t=some (.slice e))(h:Leaf P w t v):
  v=.slice none 0 0\/∃a len cap,v=.slice (some a) len cap/\len<=cap/\cap<=maxLen/\∀i<len,∃cs,w.cells? 0 (a.add (i*P.cellsOf e)) (P.cellsOf e)=some cs/\Elem P w e cs:=by
 obtain⟨H,enc,fuel,x,hx⟩:=h;cases fuel with
 |zero=>exact absurd hx (by simp[DataW.trod])
 |succ fuel=>
  unfold DataW.trod at hx;rw[hu]at hx;cases v with
  |slice p len cap=>
   cases p with
   |none=>
    left;simp only at hx
    split at hx;all_goals first|(simp_all;done)|(exact absurd hx (by simp))
   |some a=>
    right;simp only at hx
    split at hx
    ·rename_i hc;refine⟨a,len,cap,rfl,hc.2.1,hc.2.2,λi hi=>?_⟩;cases hm:(List.range len).mapM (λi=>(w.cells? 0 (a.add (i*P.cellsOf e)) (P.cellsOf e)).bind (DataW.trod enc P w 0 (λ_=>true) true fuel e))with
     |none=>rw[hm]at hx;exact absurd hx (by simp)
     |some ys=>
      obtain⟨y,hy⟩:=aM5 hm i (lG.2 hi);rw[Option.bind_eq_some_iff]at hy;obtain⟨cs,h1,h2⟩:=hy;exact⟨cs,h1,H,enc,fuel,y,h2⟩
    ·exact absurd hx (by simp)
  |_=>exact absurd hx (by simp)
theorem bx5(b off n:Nat):(⟨b,off,none⟩:Addr).add n=⟨b,off+n,none⟩:=by
 unfold Addr.add;split
 ·subst_vars;rfl
 ·rfl
theorem add_zero(a:Addr):a.add 0=a:=by unfold Addr.add;rw[ll rfl]
theorem aS8{w:World}{a:Addr}:∀{n:Nat}{cs:List Value},w.cells? 0 a n=some cs->cs.length=n/\∀j<n,w.cell? (a.add j)=cs[j]?:=by
 intro n cs h;unfold World.cells? at h;rw[ll (lB _)]at h;have aux:∀(l:List Nat)(cs:List Value),(l.mapM λi=>w.cell? (a.add i))=some cs->cs.length=l.length/\∀j (hj:j<l.length),w.cell? (a.add l[j])=cs[j]?:=by
  intro l;induction l with
  |nil=>intro cs h;simp at h;subst h;exact⟨rfl,λj hj=>absurd hj (by simp)⟩
  |cons x l ih=>
   intro cs h;rw[lae]at h;cases hx:w.cell? (a.add x)with
   |none=>rw[hx]at h;exact absurd h (by simp)
   |some v=>
    rw[hx]at h;cases hl:(l.mapM λi=>w.cell? (a.add i))with
    |none=>rw[hl]at h;exact absurd h (by simp)
    |some vs=>
     rw[hl]at h;simp at h;subst h;obtain⟨h1,h2⟩:=ih vs hl;refine⟨by simp[h1],λj hj=>?_⟩;cases j with
     |zero=>simpa using hx
     |succ j=>simpa using h2 j (by simpa using hj)
 obtain⟨h1,h2⟩:=aux _ _ h;refine⟨by simpa using h1,λj hj=>?_⟩;have:=h2 j (by simpa using hj)
 simpa using this
def Sl{α:Type}(c:α->List Value)(sz:Nat)(w:World)(v:Value)(xs:List α):Prop:=
 ∃p cap,v=.slice p xs.length cap/\xs.length<=cap/\cap<=maxLen/\
  (xs=[]\/∃b off,p=some ⟨b,off,none⟩/\∀i j:Nat,∀hi:i<xs.length,j<sz->w.cell? ⟨b,off+i*sz+j,none⟩=(c xs[i])[j]?)
theorem bz5{α:Type}{c:α->List Value}{mk:List Value->α}{ok:α->Prop}{sz:Nat}{w:World}{t e:TypeId}{n:Nat}{ls:List TypeId}{v:Value}
  (hu:P.underlying t=some (.slice e)) (hk:P.cellsOf e=sz) (hsz:0<sz) (hls:leaves P n e=some ls)
  (hrow:∀cs,All2 (Leaf P w) ls cs->c (mk cs)=cs/\ok (mk cs)) (h:Leaf P w t v):∃xs:List α,Sl c sz w v xs/\(∀x∈xs,ok x)/\xs.length<=maxLen:=by
 rcases bB5 hu h with rfl|⟨a,len,cap,rfl,h1,h2,h3⟩
 ·exact⟨[],⟨none,0,rfl,lh _,lB _,Or.inl rfl⟩,λx hx=>absurd hx (by simp),lB _⟩
 ·let row:Nat->List Value:=λi=>(w.cells? 0 (a.add (i*sz)) sz).getD []
  have hr:∀i<len,w.cells? 0 (a.add (i*sz)) sz=some (row i)/\c (mk (row i))=row i/\ok (mk (row i)):=by
   intro i hi;obtain⟨cs,hc,he⟩:=h3 i hi;rw[hk]at hc;have e1:row i=cs:=by show(w.cells? 0 (a.add (i*sz)) sz).getD []=cs;rw[hc];rfl
   rw[e1];exact⟨hc,hrow cs (bp2 hls he)⟩
  have hlen:((List.range len).map λi=>mk (row i)).length=len:=by simp
  refine⟨(List.range len).map λi=>mk (row i),⟨some a,cap,by rw[hlen],by rw[hlen];exact h1,h2,?_⟩,?_,by rw[hlen];exact lU h1 h2⟩
  ·by_cases h0:len=0
   ·left;subst h0;rfl
   ·right;obtain⟨b,off,s⟩:=a;have hs:s=none:=by
     obtain⟨hc,-,-⟩:=hr 0 (by omega);obtain⟨hl1,hc1⟩:=aS8 hc;have hlt:0<(row 0).length:=by omega
     have:=hc1 0 hsz
     rw[lw hlt,xz,add_zero,add_zero]at this;exact(ci5 this).2
    subst hs;refine⟨b,off,rfl,λi j hi hj=>?_⟩;rw[hlen]at hi;obtain⟨hc,he,-⟩:=hr i hi;obtain⟨hl1,hc1⟩:=aS8 hc;have:=hc1 j hj
    rw[List.getElem_map,List.getElem_range,he,<-this,bx5,bx5]
  ·intro x hx;obtain⟨i,hi,rfl⟩:=lX.1 hx;exact(hr i (lG.1 hi)).2.2
theorem be4{w:World}{r:Reach}{b0 n:Nat}{t:TypeId}{fs:Array Field}{ls:List TypeId}{v:Value}{d:DataW H}{ps:List MemPlace}(hu:P.underlying t=some (.struct fs))
  (hls:leaves P n t=some ls) (hok:Value.okWide P w r b0 t v) (hd:DataW.Trod enc P w 0 (λ_=>true) true t v d ps):∃cs:List Value,v=.agg cs.toArray/\All2 (Leaf P w) ls cs:=by
 unfold Value.okWide at hok;rw[hu]at hok;obtain⟨cs,rfl,-,-⟩:=hok;obtain⟨fuel,hf⟩:=hd;exact⟨cs.toList,by simp,ar0 n t ls fuel _ _ hls (by simpa[Value.cells]using hf)⟩
theorem bm7{w:World}{r:Reach}{b0:Nat}{t e:TypeId}{v:Value}{d:DataW H}{ps:List MemPlace}(hu:P.underlying t=some (.slice e))
  (hok:Value.okWide P w r b0 t v) (hd:DataW.Trod enc P w 0 (λ_=>true) true t v d ps):Leaf P w t v:=by
 obtain⟨p,len,cap,rfl⟩:=okWide_slice hu hok;obtain⟨fuel,hf⟩:=hd;exact⟨H,enc,fuel,_,hf⟩
end
namespace Sx
open Go.RowKit
inductive SV:Type
 |any
 |int (k:IntKind) (n:Int)
 |bool (b:Bool)
 |lit (b:Bool)
 |str (s:ByteArray)
 |nilfn
 |cap0
 |fn (f:FuncId) (n:Nat) (g:Nat->SV)
 |fnb (f:FuncId) (n:Nat) (g:Nat->SV)
 |agg (n:Nat) (g:Nat->SV)
 |tup (n:Nat) (g:Nat->SV)
 |sl (len n:Nat) (g:Nat->Nat->SV)
 |ref (n:Nat) (g:Nat->SV)
 |own (k off:Nat)
 |osl (k ver:Nat)
 |ownAt (k ver i n off:Nat)
 |win (k ver n lo len:Nat)
 |nilsl
 |slN (len n:Nat) (g:Nat->Nat->SV)
 |con (v:Value)
 |pin (k b:Nat)
 |part (k ver o len:Nat)
 |omap (k:Nat)
 |slP (n:Nat) (g:Nat->SV)
 |refP (g:Nat->SV)
 |ifc (T:TypeId) (g:Nat->SV)
instance:Inhabited SV:=⟨.any⟩
inductive EI:Type
 |blk (b:Nat)
 |slc (ver:Nat) (v:Value) (us:Nat->Option Nat)
abbrev Env:=Nat->Option EI
def E0:Env:=λ_=> .none
def ab1(v:Value):Prop:=v.oneCell'=true
inductive R(w:World)(X:Nat->Prop):Env->SV->Value->Prop
 |any {E v}:R w X E .any v
 |int {E k n}:R w X E (.int k n) (.int k n)
 |bool {E b}:R w X E (.bool b) (.bool b)
 |lit {E b}:R w X E (.lit b) (.bool b)
 |str {E s}:R w X E (.str s) (.string s)
 |nilfn {E}:R w X E .nilfn .nilFunc
 |cap0 {E a}:R w X E .cap0 (.slice a 0 0)
 |fn {E f n g vs} (hs:vs.size=n) (h:∀i<n,R w X E (g i) (vs.getD i undef)):R w X E (.fn f n g) (.func (.func f) #[] vs)
 |fnb {E f n g vs} (hs:vs.size=n) (h:∀i<n,R w X E (g i) (vs.getD i undef)):R w X E (.fnb f n g) (.func (.func f) vs #[])
 |agg {E n g vs} (hs:vs.size=n) (ho:∀i<n,ab1 (vs.getD i undef)) (h:∀i<n,R w X E (g i) (vs.getD i undef)):R w X E (.agg n g) (.agg vs)
 |tup {E n g vs} (hs:vs.size=n) (h:∀i<n,R w X E (g i) (vs.getD i undef)):R w X E (.tup n g) (.tuple vs)
 |sl0 {E n g a cap}:R w X E (.sl 0 n g) (.slice a 0 cap)
 | sl {E len n g b o cap c T fr} (hb:w.heap[b]?=some (.cells c T fr)) (hX:¬ X b) (hc:o+len*n<=c.size) (hl:len<=cap)
   (ho:∀i j,i<len->j<n->ab1 (c.getD (o+i*n+j) undef))
   (h:∀i j,i<len->j<n->R w X E0 (g i j) (c.getD (o+i*n+j) undef)):R w X E (.sl len n g) (.slice (some ⟨b,o,none⟩) len cap)
 | ref {E n g b o c T fr} (hb:w.heap[b]?=some (.cells c T fr)) (hX:¬ X b) (hc:o+n<=c.size)
   (ho:∀j<n,ab1 (c.getD (o+j) undef))
   (h:∀j<n,R w X E0 (g j) (c.getD (o+j) undef)):R w X E (.ref n g) (.pointer (some ⟨b,o,none⟩))
 |own {E k off b} (h:E k=some (.blk b)):R w X E (.own k off) (.pointer (some ⟨b,off,none⟩))
 |osl {E k ver v us} (h:E k=some (.slc ver v us)) (hv:∃a n c,v=.slice a n c):R w X E (.osl k ver) v
 |oslOld {E k ver ver' v v' us} (h:E k=some (.slc ver' v' us)) (hl:ver<ver') (hv:∃a n c,v=.slice a n c):R w X E (.osl k ver) v
 |ownAt {E o k ver i n off b len cap us} (h:E k=some (.slc ver (.slice (some ⟨b,o,none⟩) len cap) us)):R w X E (.ownAt k ver i n off) (.pointer (some ⟨b,o+i*n+off,none⟩))
 |ownAtOld {E k ver ver' v v' i n off us} (h:E k=some (.slc ver' v' us)) (hl:ver<ver') (hv:∃b o,v=.pointer (some ⟨b,o,none⟩)):R w X E (.ownAt k ver i n off) v
 | win {E k ver n lo len a a0 len0 cap0 us} (h:E k=some (.slc ver (.slice a0 len0 cap0) us)) (hl:lo+len<=len0) (ha:cap0-lo≠0->a=a0.map (·.add (lo*n))) (h0:lo=0->a=a0):
   R w X E (.win k ver n lo len) (.slice a len (cap0-lo))
 |nilsl {E c}:R w X E .nilsl (.slice none 0 c)
 |slN {E len n g a cap} (h:R w X E (.sl len n g) (.slice (some a) len cap)):R w X E (.slN len n g) (.slice (some a) len cap)
 |con {E v}:R w X E (.con v) v
 |part {E o0 k ver o len b len0 cap0 cap us} (h:E k=some (.slc ver (.slice (some ⟨b,o0,none⟩) len0 cap0) us)) (hl:len<=cap):R w X E (.part k ver o len) (.slice (some ⟨b,o0+o,none⟩) len cap)
 |partOld {E k ver ver' v v' o len us} (h:E k=some (.slc ver' v' us)) (hl:ver<ver') (hv:∃a n c,v=.slice a n c):R w X E (.part k ver o len) v
 |pin {E k b} (h:E k=some (.blk b)):R w X E (.pin k b) (.pointer (some ⟨b,0,none⟩))
 |omap {E k b us} (h:E k=some (.slc 0 (.map (some b)) us)):R w X E (.omap k) (.map (some b))
 |omapOld {E k ver v' us b} (h:E k=some (.slc ver v' us)) (hl:0<ver):R w X E (.omap k) (.map (some b))
 |winOld {E k ver ver' v v' n lo len us} (h:E k=some (.slc ver' v' us)) (hl:ver<ver') (hv:∃a c,v=.slice a len c):R w X E (.win k ver n lo len) v
 | slP {E n g b o cap c T fr} (hb:w.heap[b]?=some (.cells c T fr)) (hX:¬ X b) (hc:o+n<=c.size) (hl:n<=cap) (ho:∀i<n,ab1 (c.getD (o+i) undef))
   (h:∀i<n,R w X E (g i) (c.getD (o+i) undef)):R w X E (.slP n g) (.slice (some ⟨b,o,none⟩) n cap)
 |refP {E g b o c T fr} (hb:w.heap[b]?=some (.cells c T fr)) (hX:¬ X b) (hc:o<c.size) (ho:ab1 (c.getD o undef)) (h:R w X E (g 0) (c.getD o undef)):R w X E (.refP g) (.pointer (some ⟨b,o,none⟩))
 |ifc {E T g v} (ho:ab1 v) (h:R w X E (g 0) v):R w X E (.ifc T g) (.iface T v)
def Env.le(E E':Env):Prop:=(∀k b,E k=some (.blk b)->E' k=some (.blk b))/\
 ∀k ver v us,E k=some (.slc ver v us)->∃ver' v' us',E' k=some (.slc ver' v' us')/\ver<=ver'/\(ver=ver'->v=v')
theorem Env.le_refl(E:Env):E.le E:=⟨λ_ _ h=>h,λ_ _ _ _ h=>⟨_,_,_,h,lh _,λ_=>rfl⟩⟩
theorem Env.bk1(E:Env):E0.le E:=⟨λ_ _ h=>(nomatch h),λ_ _ _ _ h=>(nomatch h)⟩
def aA1(X:Nat->Prop)(w w':World):Prop:=∀b<w.heap.size,¬ X b->w'.heap[b]?=w.heap[b]?
def ab7(X X':Nat->Prop)(w:World):Prop:=∀b<w.heap.size,X' b->X b
theorem lt_of_block{w:World}{b:Nat}{o:Obj}(h:w.heap[b]?=some o):b<w.heap.size:=(li.1 h).1
theorem R.mono{w w':World}{X X':Nat->Prop}(hk:aA1 X w w')(hx:ab7 X X' w){E:Env}{sv:SV}{v:Value}(h:R w X E sv v):
  ∀{E':Env},E.le E'->R w' X' E' sv v:=by
 induction h with
 |any=>intro E' _;exact .any
 |int=>intro E' _;exact .int
 |bool=>intro E' _;exact .bool
 |lit=>intro E' _;exact .lit
 |str=>intro E' _;exact .str
 |nilfn=>intro E' _;exact .nilfn
 |cap0=>intro E' _;exact .cap0
 |fn hs _ ih=>intro E' le;exact .fn hs λi hi=>ih i hi le
 |fnb hs _ ih=>intro E' le;exact .fnb hs λi hi=>ih i hi le
 |agg hs ho _ ih=>intro E' le;exact .agg hs ho λi hi=>ih i hi le
 |tup hs _ ih=>intro E' le;exact .tup hs λi hi=>ih i hi le
 |sl0=>intro E' _;exact .sl0
 |sl hb hX hc hl ho _ ih=>
  intro E' _;have hlt:=lt_of_block hb;exact .sl ((hk _ hlt hX).trans hb) (λhx'=>hX (hx _ hlt hx')) hc hl ho λi j hi hj=>ih i j hi hj (Env.le_refl _)
 |ref hb hX hc ho _ ih=>
  intro E' _;have hlt:=lt_of_block hb;exact .ref ((hk _ hlt hX).trans hb) (λhx'=>hX (hx _ hlt hx')) hc ho λj hj=>ih j hj (Env.le_refl _)
 |own h=>intro E' le;exact .own (le.1 _ _ h)
 |osl h hv=>
  intro E' le;obtain⟨ver',v',us',e,l,q⟩:=le.2 _ _ _ _ h;rcases uk _ ver' with hlt|hge
  ·exact .oslOld e hlt hv
  ·have:=Nat.le_antisymm l hge
   subst this;rw[<-q rfl]at e;exact .osl e hv
 |oslOld h hl hv=>
  intro E' le;obtain⟨ver',v',us',e,l,q⟩:=le.2 _ _ _ _ h;exact .oslOld e (lQ hl l) hv
 |ownAt h=>
  intro E' le;obtain⟨ver',v',us',e,l,q⟩:=le.2 _ _ _ _ h;rcases uk _ ver' with hlt|hge
  ·exact .ownAtOld e hlt ⟨_,_,rfl⟩
  ·have:=Nat.le_antisymm l hge
   subst this;rw[<-q rfl]at e;exact .ownAt e
 |ownAtOld h hl hv=>
  intro E' le;obtain⟨ver',v',us',e,l,q⟩:=le.2 _ _ _ _ h;exact .ownAtOld e (lQ hl l) hv
 |win h hl ha h0=>
  intro E' le;obtain⟨ver',v',us',e,l,q⟩:=le.2 _ _ _ _ h;rcases uk _ ver' with hlt|hge
  ·exact .winOld e hlt ⟨_,_,rfl⟩
  ·have:=Nat.le_antisymm l hge
   subst this;rw[<-q rfl]at e;exact .win e hl ha h0
 |nilsl=>intro E' _;exact .nilsl
 |slN _ ih=>intro E' le;exact .slN (ih le)
 |con=>intro E' _;exact .con
 |pin h=>intro E' le;exact .pin (le.1 _ _ h)
 |part h hc=>
  intro E' le;obtain⟨ver',v',us',e,l,q⟩:=le.2 _ _ _ _ h;rcases uk _ ver' with hlt|hge
  ·exact .partOld e hlt ⟨_,_,_,rfl⟩
  ·have:=Nat.le_antisymm l hge
   subst this;rw[<-q rfl]at e;exact .part e hc
 |partOld h hl hv=>
  intro E' le;obtain⟨ver',v',us',e,l,q⟩:=le.2 _ _ _ _ h;exact .partOld e (lQ hl l) hv
 |slP hb hX hc hl ho _ ih=>
  intro E' le;have hlt:=lt_of_block hb;exact .slP ((hk _ hlt hX).trans hb) (λhx'=>hX (hx _ hlt hx')) hc hl ho λi hi=>ih i hi le
 |refP hb hX hc ho _ ih=>
  intro E' le;have hlt:=lt_of_block hb;exact .refP ((hk _ hlt hX).trans hb) (λhx'=>hX (hx _ hlt hx')) hc ho (ih le)
 |ifc ho _ ih=>intro E' le;exact .ifc ho (ih le)
 |omap h=>
  intro E' le;obtain⟨ver',v',us',e,l,q⟩:=le.2 _ _ _ _ h;cases ver' with
  |zero=>rw[<-q rfl]at e;exact .omap e
  |succ n=>exact .omapOld e (xF n)
 |omapOld h hl=>
  intro E' le;obtain⟨ver',v',us',e,l,q⟩:=le.2 _ _ _ _ h;exact .omapOld e (lQ hl l)
 |winOld h hl hv=>
  intro E' le;obtain⟨ver',v',us',e,l,q⟩:=le.2 _ _ _ _ h;exact .winOld e (lQ hl l) hv
open Go.RowKit
inductive KK:Type
 |one (k:IntKind)
 |arr (n:Nat) (k:IntKind)
deriving DecidableEq
def KK.len:KK->Nat
 |.one _=>1
 |.arr n _=>n
def keyV:KK->List Int->Value
 |.one k,l=> .int k (l.getD 0 0)
 |.arr _ k,l=> .agg (l.map (Value.int k)).toArray
theorem a56{kk:KK}{l l':List Int}(h:l.length=kk.len)(h':l'.length=kk.len)(he:keyV kk l=keyV kk l'):l=l':=by
 cases kk with
 |one k=>
  simp only[KK.len]at h h';match l,l',h,h' with
  | [a],[b],_,_=>simp only[keyV,uf,Value.int.injEq,lar]at he;rw[he]
 |arr n k=>
  simp only[keyV,Value.agg.injEq,Array.mk.injEq]at he;have inj:∀(l l':List Int),l.map (Value.int k)=l'.map (Value.int k)->l=l':=by
   intro l;induction l with
   |nil=>intro l' h;cases l' with
    |nil=>rfl
    |cons=>simp at h
   |cons a l ih=>intro l' h;cases l' with
    |nil=>simp at h
    |cons b l'=>
     simp only[xQ,List.cons.injEq,Value.int.injEq,lar]at h;rw[h.1,ih l' h.2]
  exact inj l l' he
def encI:Int->Nat
 |.ofNat n=>2*n
 |.negSucc n=>2*n+1
theorem b05{a b:Int}(h:encI a=encI b):a=b:=by
 cases a<;>cases b<;>simp only[encI]at h<;>first|(congr 1;omega)|omega
structure MapOK(kk:KK)(es:Array MapEntry)(has:List Int->Bool):Prop where
 keys:∀e∈es.toList,∃l,l.length=kk.len/\e.key=keyV kk l
 once:es.toList.Pairwise (λe e'=>e.key≠e'.key)
 iff:∀l,l.length=kk.len->(has l=true<->∃e∈es.toList,e.key=keyV kk l)
def mblk:Value->Option Nat
 |.map (some b)=>some b
 |_=>none
def hoI(ho:Option (Int×SV×Bool))(y:Int):Option SV:=match ho with
 |some q=>if q.1=y then some q.2.1 else none
 |none=>none
def aQ8(f:SV->SV)(ho:Option (Int×SV×Bool)):Option (Int×SV×Bool):=match ho with
 |some q=>some (q.1,f q.2.1,q.2.2)
 |none=>none
theorem cg0(f:SV->SV)(ho:Option (Int×SV×Bool))(y:Int):hoI (aQ8 f ho) y=(hoI ho y).map f:=by
 cases ho with
 |none=>rfl
 |some q=>
  simp only[aQ8,hoI];split<;>rfl
theorem ae7(f:SV->SV)(ho:Option (Int×SV×Bool))(y:Int):(hoI (aQ8 f ho) y=none)=(hoI ho y=none):=by
 rw[cg0];cases hoI ho y<;>simp
structure Cus:Type where
 blk:Nat->Prop
 ok:World->(Nat->Prop)->Nat->Prop
 mono:∀{w w':World}{X X':Nat->Prop}{b0:Nat},(∀b c T fr,w.heap[b]?=some (.cells c T fr)->(blk b\/¬ X b)->w'.heap[b]?=some (.cells c T fr))->(∀b<w.heap.size,X' b->X b)->ok w X b0->ok w' X' b0
 lt:∀{w:World}{X:Nat->Prop}{b0 b:Nat},ok w X b0->blk b->∃c T fr,w.heap[b]?=some (.cells c T fr)
structure CusLe(Q' Q:Cus):Prop where
 ok:∀w X b,Q'.ok w X b->Q.ok w X b
 blk:∀b,Q.blk b->Q'.blk b
theorem CusLe.refl(Q:Cus):CusLe Q Q:=⟨λ_ _ _ h=>h,λ_ h=>h⟩
inductive SO:Type
 |dead
 |cells (n:Nat) (g:Nat->SV) (T:TypeId)
 |scells (n:Nat) (g:Nat->SV)
 |row (ver len n:Nat) (g:Nat->Nat->SV) (T:TypeId)
 |srow (ver len n:Nat) (g:Nat->Nat->SV)
 |deep (ver len n c:Nat) (m:Nat->Nat) (p:Nat->Nat->Nat->SV) (g:Nat->Nat->SV) (T T':TypeId) (ho:Option (Nat×SV))
 |mpi (kk:KK) (tot:Bool) (has:List Int->Bool) (val:List Int->SV)
 |mps (kd:IntKind) (has:Int->Bool) (c:Nat) (m:Int->Nat) (p:Int->Nat->Nat->SV) (T':TypeId) (ho:Option (Int×SV×Bool))
 |cus (Q:Cus)
instance:Inhabited SO:=⟨.dead⟩
def ah4(w:World)(T:TypeId)(n:Nat)(v:Value)(len:Nat)(xs:List Value):Prop:=
 (∃a,v=.slice a 0 0/\len=0/\xs=[])\/
 ∃b o cap cur,v=.slice (some ⟨b,o,none⟩) len (cap+1)/\w.heap[b]?=some (.cells cur T (0,0))/\len<=cap+1/\cap+1<=maxLen/\cur.size=o+(cap+1)*n/\(cur.toList.drop o).take (len*n)=xs/\xs.length=len*n
def ad7:Value->Option Nat
 |.slice (some a) _ (_+1)=>some a.block
 |_=>none
def hoAt(ho:Option (Nat×SV))(i:Nat):Option SV:=match ho with
 |some (h,sv)=>if h=i then some sv else none
 |none=>none
def bC3(f:SV->SV)(ho:Option (Nat×SV)):Option (Nat×SV):=match ho with
 |some q=>some (q.1,f q.2)
 |none=>none
theorem aw9(f:SV->SV)(ho:Option (Nat×SV))(i:Nat):hoAt (bC3 f ho) i=(hoAt ho i).map f:=by
 cases ho with
 |none=>rfl
 |some q=>
  simp only[bC3,hoAt];split<;>rfl
theorem ae8(f:SV->SV)(ho:Option (Nat×SV))(i:Nat):(hoAt (bC3 f ho) i=none)=(hoAt ho i=none):=by
 rw[aw9];cases hoAt ho i<;>simp
def aA3(w:World)(X:Nat->Prop)(c:Nat)(T':TypeId)(u:Value)(m:Nat)(p:Nat->Nat->SV):Prop:=
 ∃ys,ah4 w T' c u m ys/\∀i j,i<m->j<c->ab1 (ys.getD (i*c+j) undef)/\R w X E0 (p i j) (ys.getD (i*c+j) undef)
structure DeepOK(w:World)(X:Nat->Prop)(E:Env)(v:Value)(us:Nat->Option Nat)(len n c:Nat)(m:Nat->Nat)(p:Nat->Nat->Nat->SV)(g:Nat->Nat->SV)(T T':TypeId)(ho:Option (Nat×SV))(xs:List Value):Prop where
 pos:0<n
 own:ah4 w T n v len xs
 rest:∀i j,i<len->0<j->j<n->ab1 (xs.getD (i*n+j) undef)/\R w X E0 (g i j) (xs.getD (i*n+j) undef)
 out:∀i sv,i<len->hoAt ho i=some sv->ab1 (xs.getD (i*n) undef)/\R w X E sv (xs.getD (i*n) undef)
 inn:∀i<len,hoAt ho i=none->ad7 (xs.getD (i*n) undef)=us i/\aA3 w X c T' (xs.getD (i*n) undef) (m i) (p i)
 apart:∀i b,i<len->hoAt ho i=none->us i=some b->ad7 v≠some b
 inj:∀i i' b,i<len->i'<len->hoAt ho i=none->hoAt ho i'=none->us i=some b->us i'=some b->i=i'
theorem DeepOK.map{w X X' E E' v us len n c m p g T T' ho ho' xs}(d:DeepOK w X E v us len n c m p g T T' ho xs)(hx:∀b,X' b->X b)(hho:∀i,hoAt ho' i=none->hoAt ho i=none)
  (hout:∀i sv',hoAt ho' i=some sv'->∃sv,hoAt ho i=some sv/\∀u,R w X E sv u->R w X' E' sv' u):DeepOK w X' E' v us len n c m p g T T' ho' xs:=by
 have weak:∀{s:SV}{v:Value},R w X E0 s v->R w X' E0 s v:=λh=>h.mono (λ_ _ _=>rfl) (λb _ hb=>hx b hb) (Env.le_refl _)
 refine⟨d.pos,d.own,λi j hi h0 hj=>⟨(d.rest i j hi h0 hj).1,weak (d.rest i j hi h0 hj).2⟩,λi sv hi hh=>?_,λi hi hh=>?_,λi b hi hh=>d.apart i b hi (hho i hh),λi i' b hi hi' h1 h2=>d.inj i i' b hi hi' (hho i h1) (hho i' h2)⟩
 ·obtain⟨s0,h1,h2⟩:=hout i sv hh;exact⟨(d.out i s0 hi h1).1,h2 _ (d.out i s0 hi h1).2⟩
 ·obtain⟨q1,ys,q2,q3⟩:=d.inn i hi (hho i hh);exact⟨q1,ys,q2,λi' j hi' hj=>⟨(q3 i' j hi' hj).1,weak (q3 i' j hi' hj).2⟩⟩
structure MpsOK(w:World)(X:Nat->Prop)(E:Env)(us:Nat->Option Nat)(kd:IntKind)(has:Int->Bool)(c:Nat)(m:Int->Nat)(p:Int->Nat->Nat->SV)(T':TypeId)(ho:Option (Int×SV×Bool))(es:Array MapEntry):Prop where
 map:MapOK (.one kd) es (λl=>has (l.getD 0 0))
 inn:∀y e,e∈es.toList->e.key=.int kd y->hoI ho y=none->ad7 e.val=us (encI y)/\aA3 w X c T' e.val (m y) (p y)
 gone:∀y,has y=false->m y=0/\us (encI y)=none
 out:∀h sv fl,ho=some (h,sv,fl)->(fl=true->has h=true)/\(∀e,e∈es.toList->e.key=.int kd h->R w X E sv e.val)/\(has h=false->R w X E sv (.slice none 0 0))
 inj:∀y y' b,hoI ho y=none->hoI ho y'=none->us (encI y)=some b->us (encI y')=some b->y=y'
def b21(w:World)(X:Nat->Prop)(kk:KK)(tot:Bool)(has:List Int->Bool)(val:List Int->SV)(es:Array MapEntry):Prop:=
 MapOK kk es has/\(∀l e,l.length=kk.len->e∈es.toList->e.key=keyV kk l->R w X E0 (val l) e.val)/\(tot=true->∀l,l.length=kk.len->has l=false->R w X E0 (val l) (.slice none 0 0))
def EIok(w:World)(X:Nat->Prop)(E:Env):EI->SO->Prop
 |_,.dead=>True
 |.blk b,.cells n g T=>∃vs,w.heap[b]?=some (.cells vs T (0,0))/\vs.size=n/\∀i<n,ab1 (vs.getD i undef)/\R w X E (g i) (vs.getD i undef)
 |.blk b,.scells n g=>∃vs T fr,w.heap[b]?=some (.cells vs T fr)/\¬ X b/\vs.size=n/\∀i<n,ab1 (vs.getD i undef)/\R w X E0 (g i) (vs.getD i undef)
 |.slc ver v _,.row ver' len n g T=>ver=ver'/\∃xs,ah4 w T n v len xs/\∀i j,i<len->j<n->ab1 (xs.getD (i*n+j) undef)/\R w X E0 (g i j) (xs.getD (i*n+j) undef)
 |.slc ver v _,.srow ver' len n g=>ver=ver'/\R w X E0 (.sl len n g) v
 |.slc ver v us,.deep ver' len n c m p g T T' ho=>ver=ver'/\∃xs,DeepOK w X E v us len n c m p g T T' ho xs
 |.slc ver v _,.mpi kk tot has val=>ver=0/\∃b es clock,v=.map (some b)/\w.heap[b]?=some (.map es clock)/\b21 w X kk tot has val es
 |.slc ver v us,.mps kd has c m p T' ho=>ver=0/\∃b es clock,v=.map (some b)/\w.heap[b]?=some (.map es clock)/\MpsOK w X E us kd has c m p T' ho es
 |.blk b,.cus Q=>Q.ok w X b
 |_,_=>False
def holds:EI->SO->Nat->Prop
 |.blk b,.cells ..,x=>b=x
 |.slc _ v _,.row ..,x=>ad7 v=some x
 |.slc _ v us,.deep _ len _ _ _ _ _ _ _ ho,x=>ad7 v=some x\/∃i,i<len/\hoAt ho i=none/\us i=some x
 |.slc _ v _,.mpi ..,x=>mblk v=some x
 |.slc _ v us,.mps _ _ _ _ _ _ ho,x=>mblk v=some x\/∃y,hoI ho y=none/\us (encI y)=some x
 |.blk _,.cus Q,x=>Q.blk x
 |_,_,_=>False
structure Fr:Type where
 x:Nat->Prop
 d:Nat->Prop
 nm:Env
 marks:Bool
def Fr.of(X:Nat->Prop):Fr:=⟨X,λ_=>False,E0,true⟩
def Fr.n0(X:Fr)(w0:World):Option Nat:=match X.marks with
 |true=>some w0.heap.size
 |false=>none
structure Bel(D:Nat->Prop)(w w':World):Prop where
 os:w'.os=w.os
 tape:w'.tape=w.tape
 output:w'.output=w.output
 size:w.heap.size<=w'.heap.size
 block:∀k<w.heap.size,¬ D k->w'.heap[k]?=w.heap[k]?
theorem Bel.refl(D:Nat->Prop)(w:World):Bel D w w:=⟨rfl,rfl,rfl,lh _,λ_ _ _=>rfl⟩
theorem Bel.below{D:Nat->Prop}{a b c:World}(h:Bel D a b)(k:Below b.heap.size b c):Bel D a c:=
 ⟨k.os.trans h.os,k.tape.trans h.tape,k.output.trans h.output,lU h.size k.size,λi hi hd=>(k.block i (lQ hi h.size)).trans (h.block i hi hd)⟩
theorem Bel.all{w w':World}(h:Bel (λ_=>False) w w'):Below w.heap.size w w':=⟨h.os,h.tape,h.output,h.size,λk hk=>h.block k hk id⟩
def NmOK:EI->Option EI->Prop
 |.blk b,e=>e=some (.blk b)
 |.slc _ v _,e=>∃ver v' us',e=some (.slc ver v' us')/\(ver=0->v'=v)
theorem NmOK.le{E E':Env}(le:E.le E'){e:EI}{k:Nat}(h:NmOK e (E k)):NmOK e (E' k):=by
 cases e with
 |blk b=>exact le.1 _ _ h
 |slc ver v us=>
  obtain⟨ver1,v1,u1,h1,h2⟩:=h;obtain⟨ver2,v2,u2,h3,h4,h5⟩:=le.2 _ _ _ _ h1;refine⟨ver2,v2,u2,h3,λhz=>?_⟩;have:ver1=0:=by omega
  rw[<-h2 this];exact(h5 (by omega)).symm
def Xo(X0:Fr)(E:Env)(H:List SO)(b:Nat):Prop:=X0.x b\/∃k e,E k=some e/\holds e (H.getD k .dead) b
structure Rep(w0:World)(X0:Fr)(H:List SO)(E:Env)(w:World):Prop where
 below:Bel X0.d w0 w
 x0:∀b,X0.x b->b<w0.heap.size/\¬ X0.d b
 nm:∀k e,X0.nm k=some e->NmOK e (E k)
 dom:∀k e,E k=some e->k<H.length
 ok:∀k e,E k=some e->EIok w (Xo X0 E H) E e (H.getD k .dead)
 low:∀k e b,E k=some e->holds e (H.getD k .dead) b->w0.heap.size<=b\/X0.d b
 inj:∀k k' e e' b,E k=some e->E k'=some e'->holds e (H.getD k .dead) b->holds e' (H.getD k' .dead) b->k=k'
theorem ah4.mono{w w':World}{T n v len xs}(h:ah4 w T n v len xs)(hb:∀b,(∃a m c,v=.slice (some a) m (c+1)/\a.block=b)->w'.heap[b]?=w.heap[b]?):ah4 w' T n v len xs:=by
 rcases h with h|⟨b,o,cap,cur,rfl,h1,h2⟩
 ·exact .inl h
 ·exact .inr ⟨b,o,cap,cur,rfl,(hb b ⟨_,_,_,rfl,rfl⟩).trans h1,h2⟩
theorem EIok.mono{w w':World}{X X':Nat->Prop}{E E':Env}(hk:aA1 X w w')(hx:ab7 X X' w)(le:E.le E'){e:EI}{so:SO}(h:EIok w X E e so)
  (hb:∀b,holds e so b->w'.heap[b]?=w.heap[b]?):EIok w' X' E' e so:=by
 cases so with
 |dead=>cases e<;>trivial
 |cells n g T=>
  cases e with
  |slc=>exact h
  |blk b=>
   obtain⟨vs,h1,h2,h3⟩:=h;exact⟨vs,(hb b rfl).trans h1,h2,λi hi=>⟨(h3 i hi).1,(h3 i hi).2.mono hk hx le⟩⟩
 |scells n g=>
  cases e with
  |slc=>exact h
  |blk b=>
   obtain⟨vs,T,fr,h1,h2,h3,h4⟩:=h;have hlt:=lt_of_block h1;exact⟨vs,T,fr,(hk b hlt h2).trans h1,λhx'=>h2 (hx _ hlt hx'),h3,λi hi=>⟨(h4 i hi).1,(h4 i hi).2.mono hk hx (Env.le_refl _)⟩⟩
 |row ver len n g T=>
  cases e with
  |blk=>exact h
  |slc ver' v=>
   obtain⟨h1,xs,h2,h3⟩:=h;refine⟨h1,xs,h2.mono λb ⟨a,m,c,e1,e2⟩=>?_,λi j hi hj=>⟨(h3 i j hi hj).1,(h3 i j hi hj).2.mono hk hx (Env.le_refl _)⟩⟩;subst e1;subst e2;exact hb _ rfl
 |srow ver len n g=>
  cases e with
  |blk=>exact h
  |slc ver' v=>exact⟨h.1,h.2.mono hk hx (Env.le_refl _)⟩
 |deep ver len n c m p g T T' ho=>
  cases e with
  |blk=>exact h
  |slc ver' v us=>
   obtain⟨h1,xs,d⟩:=h;refine⟨h1,xs,d.pos,d.own.mono λb ⟨a,m,c,e1,e2⟩=>?_,λi j hi h0 hj=>⟨(d.rest i j hi h0 hj).1,(d.rest i j hi h0 hj).2.mono hk hx (Env.le_refl _)⟩,λi sv hi hh=>⟨(d.out i sv hi hh).1,(d.out i sv hi hh).2.mono hk hx le⟩,λi hi hh=>?_,d.apart,d.inj⟩
   ·subst e1;subst e2;exact hb _ (.inl rfl)
   ·obtain⟨g1,ys,g2,g3⟩:=d.inn i hi hh;refine⟨g1,ys,g2.mono λb ⟨a,m,c,e1,e2⟩=>?_,λi' j hi' hj=>⟨(g3 i' j hi' hj).1,(g3 i' j hi' hj).2.mono hk hx (Env.le_refl _)⟩⟩;rw[e1]at g1;subst e2;exact hb _ (.inr ⟨i,hi,hh,g1.symm⟩)
 |mpi kk tot has val=>
  cases e with
  |blk=>exact h
  |slc ver' v us=>
   obtain⟨h1,b,es,clock,rfl,h2,h3,h4,h5⟩:=h;exact⟨h1,b,es,clock,rfl,(hb b rfl).trans h2,h3,λl e hl he hk'=>(h4 l e hl he hk').mono hk hx (Env.le_refl _),λht l hl hh=>(h5 ht l hl hh).mono hk hx (Env.le_refl _)⟩
 |mps kd has c m p T' ho=>
  cases e with
  |blk=>exact h
  |slc ver' v us=>
   obtain⟨h1,b,es,clock,rfl,h2,d⟩:=h;refine⟨h1,b,es,clock,rfl,(hb b (.inl rfl)).trans h2,d.map,λy e he hk' hh=>?_,d.gone,λhy sv fl hho=>?_,d.inj⟩
   ·obtain⟨g1,ys,g2,g3⟩:=d.inn y e he hk' hh;refine⟨g1,ys,g2.mono λb' ⟨a,m',c',e1,e2⟩=>?_,λi' j hi' hj=>⟨(g3 i' j hi' hj).1,(g3 i' j hi' hj).2.mono hk hx (Env.le_refl _)⟩⟩;rw[e1]at g1;subst e2;exact hb _ (.inr ⟨y,hh,g1.symm⟩)
   ·obtain⟨g1,g2,g3⟩:=d.out hy sv fl hho;exact⟨g1,λe he hk'=>(g2 e he hk').mono hk hx le,λhz=>(g3 hz).mono hk hx le⟩
 |cus Q=>
  cases e with
  |slc=>exact h
  |blk b=>
   refine Q.mono (λb c T fr hc ho=>?_) hx h;rcases ho with hi|ho
   ·exact(hb b hi).trans hc
   ·exact(hk b (lt_of_block hc) ho).trans hc
theorem ah4.lt{w:World}{T n v len xs}(h:ah4 w T n v len xs){b:Nat}(hb:ad7 v=some b):b<w.heap.size:=by
 rcases h with⟨a,rfl,_⟩|⟨b',o,cap,cur,rfl,h4,_⟩
 ·cases a<;>simp[ad7]at hb
 ·simp only[ad7,sk]at hb;subst hb;exact lt_of_block h4
theorem ak3{w:World}{X:Nat->Prop}{E:Env}{e:EI}{so:SO}(h:EIok w X E e so){b:Nat}(hb:holds e so b):b<w.heap.size:=by
 cases so with
 |dead=>cases e<;>simp[holds]at hb
 |cells n g T=>
  cases e with
  |slc=>exact h.elim
  |blk b'=>
   simp only[holds]at hb;subst hb;obtain⟨vs,h1,_⟩:=h;exact lt_of_block h1
 |scells n g=>cases e<;>simp[holds]at hb
 |row ver len n g T=>
  cases e with
  |blk=>exact h.elim
  |slc ver' v=>
   obtain⟨h1,xs,h2,h3⟩:=h;exact h2.lt hb
 |srow ver len n g=>cases e<;>simp[holds]at hb
 |deep ver len n c m p g T T' ho=>
  cases e with
  |blk=>exact h.elim
  |slc ver' v us=>
   obtain⟨h1,xs,d⟩:=h;rcases hb with hb|⟨i,hi,hh,hu⟩
   ·exact d.own.lt hb
   ·obtain⟨g1,ys,g2,g3⟩:=d.inn i hi hh;exact g2.lt (g1.trans hu)
 |mpi kk tot has val=>
  cases e with
  |blk=>exact h.elim
  |slc ver' v us=>
   obtain⟨h1,b',es,clock,rfl,h2,_⟩:=h;simp only[holds,mblk,sk]at hb;subst hb;exact lt_of_block h2
 |mps kd has c m p T' ho=>
  cases e with
  |blk=>exact h.elim
  |slc ver' v us=>
   obtain⟨h1,b',es,clock,rfl,h2,d⟩:=h;rcases hb with hb|⟨y,hh,hu⟩
   ·simp only[mblk,sk]at hb;subst hb;exact lt_of_block h2
   ·cases hy:has y with
    |false=>rw[(d.gone y hy).2]at hu;cases hu
    |true=>
     obtain⟨e,he,hke⟩:=(d.map.iff [y] rfl).1 hy;obtain⟨g1,ys,g2,g3⟩:=d.inn y e he hke hh;exact g2.lt (g1.trans hu)
 |cus Q=>
  cases e with
  |slc=>exact h.elim
  |blk=>
   obtain⟨c,T,fr,hc⟩:=Q.lt h hb;exact lt_of_block hc
theorem Rep.xlt{w0 X0 H E w}(h:Rep w0 X0 H E w):∀b,Xo X0 E H b->b<w.heap.size:=by
 rintro b (hb|⟨k,e,he,hh⟩)
 ·exact lQ (h.x0 b hb).1 h.below.size
 ·exact ak3 (h.ok k e he) hh
theorem Rep.world{w0 X0 H E w w'}(h:Rep w0 X0 H E w)(hb:Below w.heap.size w w'):Rep w0 X0 H E w':=by
 refine⟨h.below.below hb,h.x0,h.nm,h.dom,λk e he=>?_,h.low,h.inj⟩;exact(h.ok k e he).mono (λb hlt _=>hb.block b hlt) (λb _ hx=>hx) (Env.le_refl _) λb hh=>hb.block b (ak3 (h.ok k e he) hh)
theorem Rep.keeps{X:Nat->Prop}{w w':World}(hb:Below w.heap.size w w'):aA1 X w w':=λb hlt _=>hb.block b hlt
theorem ab7.refl(X:Nat->Prop)(w:World):ab7 X X w:=λ_ _ h=>h
theorem ab0{α:Type}{l m:List α}{k:Nat}{d:α}(h:k<l.length):(l++m).getD k d=l.getD k d:=by
 simp only[la];rw[xh h]
theorem an4{X0 E}{H H':List SO}(h:∀k e,E k=some e->H'.getD k .dead=H.getD k .dead):Xo X0 E H'=Xo X0 E H:=by
 funext b;apply propext;unfold Xo;refine or_congr uU ⟨λ⟨k,e,he,hh⟩=>⟨k,e,he,by rw[<-h k e he];exact hh⟩,λ⟨k,e,he,hh⟩=>⟨k,e,he,by rw[h k e he];exact hh⟩⟩
theorem Rep.ext{w0 X0 H H' E w}(h:Rep w0 X0 H E w)(hl:H.length<=H'.length)(hh:∀k<H.length,H'.getD k .dead=H.getD k .dead):Rep w0 X0 H' E w:=by
 have hh':∀k e,E k=some e->H'.getD k .dead=H.getD k .dead:=λk e he=>hh k (h.dom k e he)
 refine⟨h.below,h.x0,h.nm,λk e he=>lQ (h.dom k e he) hl,λk e he=>?_,λk e b he hb=>?_,λk k' e e' b he he' hb hb'=>?_⟩
 ·rw[an4 hh',hh' k e he];exact h.ok k e he
 ·rw[hh' k e he]at hb;exact h.low k e b he hb
 ·rw[hh' k e he]at hb;rw[hh' k' e' he']at hb';exact h.inj k k' e e' b he he' hb hb'
def Env.put(E:Env)(k:Nat)(e:EI):Env:=λj=>if j=k then some e else E j
theorem Env.aa8(E:Env)(k:Nat)(e:EI):E.put k e k=some e:=by simp[Env.put]
theorem Env.ac6{E:Env}{k j:Nat}{e:EI}(h:j≠k):E.put k e j=E j:=by simp[Env.put,h]
theorem Env.aQ6{E:Env}{k:Nat}{e:EI}(h:E k=none):E.le (E.put k e):=by
 refine⟨λj b hj=>?_,λj ver v us hj=>?_⟩
 ·rw[Env.ac6 (λe=>by subst e;rw[h]at hj;cases hj)];exact hj
 ·exact⟨ver,v,us,by rw[Env.ac6 (λe=>by subst e;rw[h]at hj;cases hj)];exact hj,lh _,λ_=>rfl⟩
theorem aj4(w:World)(o:Obj):(w.alloc o).heap[w.heap.size]?=some o:=heap_alloc_new w o
theorem Below.aT4(w:World)(o:Obj):Below w.heap.size w (w.alloc o):=(Below.refl _ _).alloc (lh _) o
theorem Rep.new{w0 X0 H E w w'}(h:Rep w0 X0 H E w){k:Nat}{e:EI}(hk:E k=none)(hkl:k<H.length)(hb:Below w.heap.size w w')
  (hh:∀b,holds e (H.getD k .dead) b->w.heap.size<=b)
  (hok:EIok w' (Xo X0 (E.put k e) H) (E.put k e) e (H.getD k .dead)):
  Rep w0 X0 H (E.put k e) w'/\ab7 (Xo X0 E H) (Xo X0 (E.put k e) H) w:=by
 have hle:E.le (E.put k e):=Env.aQ6 hk;have hw:ab7 (Xo X0 E H) (Xo X0 (E.put k e) H) w:=by
  rintro b hlt (hx|⟨j,e',hj,hh'⟩)
  ·exact .inl hx
  ·by_cases hjk:j=k
   ·subst hjk;rw[Env.aa8]at hj;cases hj;have:=hh b hh'
    omega
   ·rw[Env.ac6 hjk]at hj;exact .inr ⟨j,e',hj,hh'⟩
 refine⟨⟨h.below.below hb,h.x0,λj e' hj=>(h.nm j e' hj).le hle,λj e' hj=>?_,λj e' hj=>?_,λj e' b hj hh'=>?_,λj j' e1 e2 b hj hj' h1 h2=>?_⟩,hw⟩
 ·by_cases hjk:j=k
  ·subst hjk;exact hkl
  ·rw[Env.ac6 hjk]at hj;exact h.dom j e' hj
 ·by_cases hjk:j=k
  ·subst hjk;rw[Env.aa8]at hj;cases hj;exact hok
  ·rw[Env.ac6 hjk]at hj;exact(h.ok j e' hj).mono (Rep.keeps hb) hw hle λb hh'=>hb.block b (ak3 (h.ok j e' hj) hh')
 ·by_cases hjk:j=k
  ·subst hjk;rw[Env.aa8]at hj;cases hj;have:=hh b hh'
   have:=h.below.size
   exact .inl (by omega)
  ·rw[Env.ac6 hjk]at hj;exact h.low j e' b hj hh'
 ·by_cases hjk:j=k
  ·by_cases hjk':j'=k
   ·omega
   ·subst hjk;rw[Env.aa8]at hj;cases hj;rw[Env.ac6 hjk']at hj';have:=hh b h1
    have:=ak3 (h.ok j' e2 hj') h2
    omega
  ·by_cases hjk':j'=k
   ·subst hjk';rw[Env.aa8]at hj';cases hj';rw[Env.ac6 hjk]at hj;have:=hh b h2
    have:=ak3 (h.ok j e1 hj) h1
    omega
   ·rw[Env.ac6 hjk]at hj;rw[Env.ac6 hjk']at hj';exact h.inj j j' e1 e2 b hj hj' h1 h2
open Go.RowKit
theorem ac3{α:Type}{l:List α}{k:Nat}{x d:α}(h:k<l.length):(l.set k x).getD k d=x:=by
 simp[la,h]
theorem aa3{α:Type}{l:List α}{k j:Nat}{x d:α}(h:j≠k):(l.set k x).getD j d=l.getD j d:=by
 simp[la,xG h]
theorem Rep.upd{w0 X0 H E w w'}(h:Rep w0 X0 H E w){k:Nat}{e e':EI}{so':SO}(hk:E k=some e)(le:E.le (E.put k e'))
  (hb:∀b<w.heap.size,¬ holds e (H.getD k .dead) b->w'.heap[b]?=w.heap[b]?)
  (hos:w'.os=w.os) (htape:w'.tape=w.tape) (hout:w'.output=w.output) (hsz:w.heap.size<=w'.heap.size)
  (hh:∀b,holds e' so' b->holds e (H.getD k .dead) b\/(w.heap.size<=b))
  (hok:aA1 (Xo X0 E H) w w'->ab7 (Xo X0 E H) (Xo X0 (E.put k e') (H.set k so')) w->
   (∀b,holds e (H.getD k .dead) b->¬ holds e' so' b->¬ Xo X0 (E.put k e') (H.set k so') b)->EIok w' (Xo X0 (E.put k e') (H.set k so')) (E.put k e') e' so'):
  Rep w0 X0 (H.set k so') (E.put k e') w'/\aA1 (Xo X0 E H) w w'/\ab7 (Xo X0 E H) (Xo X0 (E.put k e') (H.set k so')) w:=by
 have hkl:k<H.length:=h.dom k e hk;have ge:∀{j e1},(E.put k e') j=some e1->j≠k->E j=some e1:=λhj hne=>by rwa[Env.ac6 hne]at hj
 have hke:aA1 (Xo X0 E H) w w':=λb hlt hX=>hb b hlt λhc=>hX (.inr ⟨k,e,hk,hc⟩)
 have hwi:ab7 (Xo X0 E H) (Xo X0 (E.put k e') (H.set k so')) w:=by
  rintro b hlt (hx|⟨j,e1,hj,hj2⟩)
  ·exact .inl hx
  ·by_cases hjk:j=k
   ·subst hjk;rw[Env.aa8]at hj;cases hj;rw[ac3 hkl]at hj2;rcases hh b hj2 with h1|h1
    ·exact .inr ⟨j,e,hk,h1⟩
    ·omega
   ·rw[aa3 hjk]at hj2;exact .inr ⟨j,e1,ge hj hjk,hj2⟩
 have hoth:∀j e1 b,j≠k->E j=some e1->holds e1 (H.getD j .dead) b->w'.heap[b]?=w.heap[b]?:=λj e1 b hjk hj hj2=>
  hb b (ak3 (h.ok j e1 hj) hj2) λhc=>hjk (h.inj j k e1 e b hj hk hj2 hc)
 have hfree:∀b,holds e (H.getD k .dead) b->¬ holds e' so' b->¬ Xo X0 (E.put k e') (H.set k so') b:=by
  rintro b h1 h2 (hx|⟨j,e1,hj,hj2⟩)
  ·have h3:=h.x0 b hx;rcases h.low k e b hk h1 with h4|h4
   ·omega
   ·exact h3.2 h4
  ·by_cases hjk:j=k
   ·subst hjk;rw[Env.aa8]at hj;cases hj;rw[ac3 hkl]at hj2;exact h2 hj2
   ·rw[aa3 hjk]at hj2;exact hjk (h.inj j k e1 e b (ge hj hjk) hk hj2 h1)
 refine⟨⟨⟨hos.trans h.below.os,htape.trans h.below.tape,hout.trans h.below.output,lU h.below.size hsz,λb hlt hd=>(hb b (lQ hlt h.below.size) λhc=>?_).trans (h.below.block b hlt hd)⟩,h.x0,λj e1 hj=>(h.nm j e1 hj).le le,λj e1 hj=>?_,λj e1 hj=>?_,λj e1 b hj hj2=>?_,λj j' e1 e2 b hj hj' h1 h2=>?_⟩,hke,hwi⟩
 ·rcases h.low k e b hk hc with h4|h4
  ·omega
  ·exact hd h4
 ·rw[um];by_cases hjk:j=k
  ·subst hjk;exact hkl
  ·exact h.dom j e1 (ge hj hjk)
 ·by_cases hjk:j=k
  ·subst hjk;rw[Env.aa8]at hj;cases hj;rw[ac3 hkl];exact hok hke hwi hfree
  ·rw[aa3 hjk];exact(h.ok j e1 (ge hj hjk)).mono hke hwi le λb hj2=>hoth j e1 b hjk (ge hj hjk) hj2
 ·by_cases hjk:j=k
  ·subst hjk;rw[Env.aa8]at hj;cases hj;rw[ac3 hkl]at hj2;rcases hh b hj2 with h1|h1
   ·exact h.low j e b hk h1
   ·exact .inl (lU h.below.size h1)
  ·rw[aa3 hjk]at hj2;exact h.low j e1 b (ge hj hjk) hj2
 ·have key:∀j e1,j≠k->E j=some e1->holds e1 (H.getD j .dead) b->holds e' so' b->False:=λj e1 hjk hj hj2 h2=>by
   rcases hh b h2 with h1|h1
   ·exact hjk (h.inj j k e1 e b hj hk hj2 h1)
   ·have:=ak3 (h.ok j e1 hj) hj2
    omega
  by_cases hjk:j=k
  ·by_cases hjk':j'=k
   ·omega
   ·subst hjk;rw[Env.aa8]at hj;cases hj;rw[ac3 hkl]at h1;rw[aa3 hjk']at h2;exact(key j' e2 hjk' (ge hj' hjk') h2 h1).elim
  ·by_cases hjk':j'=k
   ·subst hjk';rw[Env.aa8]at hj';cases hj';rw[ac3 hkl]at h2;rw[aa3 hjk]at h1;exact(key j e1 hjk (ge hj hjk) h1 h2).elim
   ·rw[aa3 hjk]at h1;rw[aa3 hjk']at h2;exact h.inj j j' e1 e2 b (ge hj hjk) (ge hj' hjk') h1 h2
theorem Env.af6{E:Env}{k:Nat}{e:EI}(h:E k=some e):E.put k e=E:=by
 funext j;by_cases hj:j=k
 ·subst hj;rw[Env.aa8,h]
 ·rw[Env.ac6 hj]
def pur(H:List SO):Nat->SV->Option SV
 |0,_=>none
 |f+1,sv=>match sv with
  |.any=>none
  |.own k off=>match H.getD k .dead with
   |.scells n g=>if off<=n then some (.ref (n-off) (λj=>g (off+j)))else none
   |_=>none
  |.osl k ver=>match H.getD k .dead with
   |.srow ver' len n g=>if ver=ver' then some (.sl len n g)else none
   |_=>none
  |.ownAt ..=>none
  |.omap _=>none
  |.pin ..=>none
  |.part ..=>none
  |.win k ver n lo len=>match H.getD k .dead with
   |.srow ver' _ n' g=>if ver=ver'/\n=n' then some (.sl len n (λi j=>g (lo+i) j))else none
   |_=>none
  |.agg n g=>if(List.range n).all (λi=>(pur H f (g i)).isSome)then some (.agg n (λi=>(pur H f (g i)).getD .any))else none
  |.tup n g=>if(List.range n).all (λi=>(pur H f (g i)).isSome)then some (.tup n (λi=>(pur H f (g i)).getD .any))else none
  |.fn F n g=>if(List.range n).all (λi=>(pur H f (g i)).isSome)then some (.fn F n (λi=>(pur H f (g i)).getD .any))else none
  |.fnb F n g=>if(List.range n).all (λi=>(pur H f (g i)).isSome)then some (.fnb F n (λi=>(pur H f (g i)).getD .any))else none
  |.slP ..=>none
  |.refP _=>none
  |.ifc T g=>if(pur H f (g 0)).isSome=true then some (.ifc T (λ_=>(pur H f (g 0)).getD .any))else none
  |s=>some s
theorem aa0{α:Type}{c:Prop}[Decidable c]{a b:α}(h:(if c then some a else none)=some b):c/\a=b:=by
 by_cases hc:c<;>simp[hc]at h
 exact⟨hc,h⟩
theorem ad1{n:Nat}{p:Nat->Bool}(h:(List.range n).all p=true){i:Nat}(hi:i<n):p i=true:=
 xd.1 h i (lG.2 hi)
theorem ai2{α:Type}{o:Option α}{d:α}(h:o.isSome=true):o=some (o.getD d):=by cases o<;>simp_all
theorem ap7{w0 X0 H E w}(h:Rep w0 X0 H E w):∀(f:Nat)(sv sv':SV)(v:Value),pur H f sv=some sv'->R w (Xo X0 E H) E sv v->R w (Xo X0 E H) E0 sv' v:=by
 intro f;induction f with
 |zero=>intro sv sv' v hp;simp[pur]at hp
 |succ f ih=>
  intro sv sv' v hp hr;cases hr with
  |any=>simp[pur]at hp
  |int=>simp[pur]at hp;subst hp;exact .int
  |bool=>simp[pur]at hp;subst hp;exact .bool
  |lit=>simp[pur]at hp;subst hp;exact .lit
  |str=>simp[pur]at hp;subst hp;exact .str
  |nilfn=>simp[pur]at hp;subst hp;exact .nilfn
  |cap0=>simp[pur]at hp;subst hp;exact .cap0
  |con=>simp[pur]at hp;subst hp;exact .con
  |slP=>simp[pur]at hp
  |refP=>simp[pur]at hp
  |ifc ho hr=>
   simp only[pur]at hp;obtain⟨ha,rfl⟩:=aa0 hp;exact .ifc ho (ih _ _ _ (ai2 ha) hr)
  |pin=>simp[pur]at hp
  |part=>simp[pur]at hp
  |partOld=>simp[pur]at hp
  |omap=>simp[pur]at hp
  |omapOld=>simp[pur]at hp
  |fn hs hr=>
   simp only[pur]at hp;obtain⟨ha,rfl⟩:=aa0 hp;exact .fn hs λi hi=>ih _ _ _ (ai2 (ad1 ha hi)) (hr i hi)
  |fnb hs hr=>
   simp only[pur]at hp;obtain⟨ha,rfl⟩:=aa0 hp;exact .fnb hs λi hi=>ih _ _ _ (ai2 (ad1 ha hi)) (hr i hi)
  |agg hs ho hr=>
   simp only[pur]at hp;obtain⟨ha,rfl⟩:=aa0 hp;exact .agg hs ho λi hi=>ih _ _ _ (ai2 (ad1 ha hi)) (hr i hi)
  |tup hs hr=>
   simp only[pur]at hp;obtain⟨ha,rfl⟩:=aa0 hp;exact .tup hs λi hi=>ih _ _ _ (ai2 (ad1 ha hi)) (hr i hi)
  |sl0=>simp[pur]at hp;subst hp;exact .sl0
  |sl hb hX hc hl ho hr=>simp[pur]at hp;subst hp;exact .sl hb hX hc hl ho hr
  |ref hb hX hc ho hr=>simp[pur]at hp;subst hp;exact .ref hb hX hc ho hr
  |own he=>
   rename_i k off b;simp only[pur]at hp;have hok:=h.ok k _ he;generalize H.getD k .dead=so at hp hok;cases so<;>simp only[reduceCtorEq]at hp
   rename_i n g;obtain⟨ha,rfl⟩:=aa0 hp;obtain⟨vs,T,fr,h1,h2,h3,h4⟩:=hok;exact .ref h1 h2 (by omega) (λj hj=>(h4 (off+j) (by omega)).1) λj hj=>(h4 (off+j) (by omega)).2
  |osl he hv=>
   rename_i k ver us;simp only[pur]at hp;have hok:=h.ok k _ he;generalize H.getD k .dead=so at hp hok;cases so<;>simp only[reduceCtorEq]at hp
   rename_i ver' len n g;obtain⟨ha,rfl⟩:=aa0 hp;exact hok.2
  |oslOld he hlt hv=>
   rename_i k ver ver' v' us;simp only[pur]at hp;have hok:=h.ok k _ he;generalize H.getD k .dead=so at hp hok;cases so<;>simp only[reduceCtorEq]at hp
   rename_i ver'' len n g;obtain⟨ha,rfl⟩:=aa0 hp;have:=hok.1
   omega
  |ownAt=>simp[pur]at hp
  |ownAtOld=>simp[pur]at hp
  |win he hl ha h0=>
   rename_i k ver n lo len a a0 len0 cap0 us;simp only[pur]at hp;have hok:=h.ok k _ he;generalize H.getD k .dead=so at hp hok;cases so<;>simp only[reduceCtorEq]at hp
   rename_i ver' len' n' g;obtain⟨⟨rfl,rfl⟩,rfl⟩:=aa0 hp;by_cases hz:len=0
   ·subst hz;exact .sl0
   ·have hr2:=hok.2;cases hr2 with
    |sl0=>omega
    |sl hb hX hc hlc ho hr=>
     rename_i b o c T fr;rw[ha (by omega)];have hle:=lk n hl;rw[lL]at hle;have hadd:(some (⟨b,o,none⟩:Addr)).map (·.add (lo*n))=some ⟨b,o+lo*n,none⟩:=by rw[lD];exact congrArg some (Addr.add_lit b o _)
     rw[hadd];have e1:∀i j,o+lo*n+i*n+j=o+(lo+i)*n+j:=λi j=>by rw[lL];omega
     refine .sl hb hX (by omega) (by omega) (λi j hi hj=>?_) λi j hi hj=>?_
     ·rw[e1];exact ho _ _ (by omega) hj
     ·rw[e1];exact hr _ _ (by omega) hj
  |nilsl=>simp[pur]at hp;subst hp;exact .nilsl
  |slN hr=>
   simp[pur]at hp;subst hp;refine .slN ?_;cases hr with
   |sl0=>exact .sl0
   |sl hb hX hc hl ho hr=>exact .sl hb hX hc hl ho hr
  |winOld he hlt hv=>
   rename_i k ver ver' v' n lo len us;simp only[pur]at hp;have hok:=h.ok k _ he;generalize H.getD k .dead=so at hp hok;cases so<;>simp only[reduceCtorEq]at hp
   rename_i ver'' len' n' g;obtain⟨⟨rfl,rfl⟩,rfl⟩:=aa0 hp;have:=hok.1
   omega
theorem aG3(e:EI)(ver len n:Nat)(g:Nat->Nat->SV):∀b,¬ holds e (.srow ver len n g) b:=λb h=>by
 cases e<;>exact h
def bi5(c:Nat)(m:Nat->Nat)(p:Nat->Nat->Nat->SV)(g:Nat->Nat->SV)(i j:Nat):SV:=match j with
 |0=> .sl (m i) c (p i)
 |j+1=>g i (j+1)
def frz(H:List SO)(k:Nat):Option (List SO):=
 match H.getD k .dead with
 |.cells n g _=>if(List.range n).all (λi=>(pur H 6 (g i)).isSome)then some (H.set k (.scells n (λi=>(pur H 6 (g i)).getD .any)))else none
 |.row ver len n g _=>some (H.set k (.srow ver len n g))
 |.scells ..=>some H
 |.srow ..=>some H
 |.deep ver len n c m p g _ _ ho=>match ho with
  |none=>some (H.set k (.srow ver len n (bi5 c m p g)))
  |some _=>none
 |.mpi ..=>none
 |.mps ..=>none
 |.cus _=>none
 |.dead=>none
theorem ah4.toSl{w:World}{X:Nat->Prop}{E:Env}{T n v len xs g}(h:ah4 w T n v len xs)
  (hX:∀b,ad7 v=some b->¬ X b)
  (hr:∀i j,i<len->j<n->ab1 (xs.getD (i*n+j) undef)/\R w X E0 (g i j) (xs.getD (i*n+j) undef)):R w X E (.sl len n g) v:=by
 rcases h with⟨a,rfl,rfl,rfl⟩|⟨b,o,cap,cur,rfl,h1,h2,h3,h4,h5,h6⟩
 ·exact .sl0
 ·have hle:len*n<=(cap+1)*n:=lk _ h2;have key:∀i j,i<len->j<n->cur.getD (o+i*n+j) undef=xs.getD (i*n+j) undef:=by
   intro i j hi hj;have hlt:i*n+j<len*n:=by
    have:(i+1)*n<=len*n:=lk _ hi
    rw[lL]at this;omega
   subst h5;rw[lc,la,xR,ll hlt,xx,lM,xf]
  refine .sl h1 (hX b rfl) (by omega) h2 (λi j hi hj=>?_) λi j hi hj=>?_
  ·rw[key i j hi hj];exact(hr i j hi hj).1
  ·rw[key i j hi hj];exact(hr i j hi hj).2
theorem Rep.frz{w0 X0 H E w}(h:Rep w0 X0 H E w){k:Nat}{H':List SO}(hf:frz H k=some H'){e:EI}(hk:E k=some e):
  Rep w0 X0 H' E w/\ab7 (Xo X0 E H) (Xo X0 E H') w:=by
 have hok:=h.ok k e hk;unfold Sx.frz at hf;have go:∀so',(∀b,¬ holds e so' b)->H'=H.set k so'->
   (aA1 (Xo X0 E H) w w->ab7 (Xo X0 E H) (Xo X0 E (H.set k so')) w->(∀b,holds e (H.getD k .dead) b->¬ Xo X0 E (H.set k so') b)->EIok w (Xo X0 E (H.set k so')) E e so')->
   Rep w0 X0 H' E w/\ab7 (Xo X0 E H) (Xo X0 E H') w:=by
  intro so' hn he hgo;subst he;have hu:=h.upd (w':=w) (e':=e) (so':=so') hk (by rw[Env.af6 hk];exact Env.le_refl _) (λ_ _ _=>rfl) rfl rfl rfl (lh _)
   (λb hb=>(hn b hb).elim) (λa b c=>by rw[Env.af6 hk]at *;exact hgo a b λb' hb'=>c b' hb' (hn b'))
  rw[Env.af6 hk]at hu;exact⟨hu.1,hu.2.2⟩
 generalize hs:H.getD k .dead=so at hf hok;cases so with
 |dead=>simp at hf
 |mpi=>simp at hf
 |mps=>simp at hf
 |cus=>simp at hf
 |scells n g=>simp at hf;subst hf;exact⟨h,ab7.refl _ _⟩
 |srow=>simp at hf;subst hf;exact⟨h,ab7.refl _ _⟩
 |cells n g T=>
  simp only at hf
  obtain⟨ha,rfl⟩:=aa0 hf;cases e with
  |slc=>exact hok.elim
  |blk b=>
   obtain⟨vs,h1,h2,h3⟩:=hok;have hno:∀b',¬ holds (.blk b) (.scells n (λi=>(pur H 6 (g i)).getD .any)) b':=λ_ hb=>hb
   refine go _ hno rfl λhke hwi hfree=>⟨vs,T,_,h1,hfree b (by rw[hs];rfl),h2,λi hi=>⟨(h3 i hi).1,?_⟩⟩
   exact(ap7 h 6 _ _ _ (ai2 (ad1 ha hi)) (h3 i hi).2).mono hke hwi (Env.le_refl _)
 |row ver len n g T=>
  simp only at hf
  cases hf;cases e with
  |blk=>exact hok.elim
  |slc ver' v=>
   obtain⟨h1,xs,h2,h3⟩:=hok;refine go _ (aG3 _ _ _ _ _) rfl λhke hwi hfree=>⟨h1,h2.toSl (T:=T) (λb hb=>hfree b ?_) λi j hi hj=>⟨(h3 i j hi hj).1,(h3 i j hi hj).2.mono hke hwi (Env.le_refl _)⟩⟩
   rw[hs];exact hb
 |deep ver len n c m p g T T' ho=>
  simp only at hf
  split at hf
  case h_2=>cases hf
  cases hf;cases e with
  |blk=>exact hok.elim
  |slc ver' v us=>
   obtain⟨h1,xs,d⟩:=hok;refine go _ (aG3 _ _ _ _ _) rfl λhke hwi hfree=>⟨h1,d.own.toSl (T:=T) (λb hb=>hfree b ?_) λi j hi hj=>?_⟩
   ·rw[hs];exact .inl hb
   ·cases j with
    |succ j=>
     have:=d.rest i (j+1) hi (xF _) hj
     exact⟨this.1,this.2.mono hke hwi (Env.le_refl _)⟩
    |zero=>
     obtain⟨g1,ys,g2,g3⟩:=d.inn i hi rfl;rw[lV];refine⟨?_,g2.toSl (T:=T') (λb hb=>hfree b ?_) λi' j' hi' hj'=>⟨(g3 i' j' hi' hj').1,(g3 i' j' hi' hj').2.mono hke hwi (Env.le_refl _)⟩⟩
     ·rcases g2 with⟨a,e1,_⟩|⟨b',oo,cap,cur,e1,_⟩<;>rw[e1]<;>rfl
     ·rw[hs];exact .inr ⟨i,hi,rfl,g1▸hb⟩
open Go.RowKit
universe u
abbrev Tt:Prop:=True
structure Aq(p:Prop):Prop where
 out:p
theorem bS7{p:Prop}:Aq p<->p:=⟨Aq.out,Aq.mk⟩
def allN:Nat->(Nat->Prop)->Prop
 |0,_=>True
 |n+1,p=>allN n p/\p n
theorem af1{p:Nat->Prop}:∀{n:Nat},allN n p->∀i<n,p i
 |0,_,i,hi=>absurd hi (ln _)
 |n+1,h,i,hi=>by
  by_cases hc:i=n
  ·subst hc;exact h.2
  ·exact af1 h.1 i (by omega)
def force{α:Sort u}(s:SV)(k:SV->α):α:=
 match s with
 |.any=>k .any
 |.int a n=>k (.int a n)
 |.bool b=>k (.bool b)
 |.lit b=>k (.lit b)
 |.str x=>k (.str x)
 |.nilfn=>k .nilfn
 |.cap0=>k .cap0
 |.fn f n g=>k (.fn f n g)
 |.fnb f n g=>k (.fnb f n g)
 |.agg n g=>k (.agg n g)
 |.tup n g=>k (.tup n g)
 |.sl len n g=>k (.sl len n g)
 |.ref n g=>k (.ref n g)
 |.own a o=>k (.own a o)
 |.osl a v=>k (.osl a v)
 |.ownAt a v i n o=>k (.ownAt a v i n o)
 |.win a v n l m=>k (.win a v n l m)
 |.nilsl=>k .nilsl
 |.slN len n g=>k (.slN len n g)
 |.con v=>k (.con v)
 |.pin a b=>k (.pin a b)
 |.part a b c d=>k (.part a b c d)
 |.omap a=>k (.omap a)
 |.slP n g=>k (.slP n g)
 |.refP g=>k (.refP g)
 |.ifc T g=>k (.ifc T g)
theorem force_eq{α:Sort u}(s:SV)(k:SV->α):force s k=k s:=by cases s<;>rfl
def b74{α:Sort u}(s:SO)(k:SO->α):α:=
 match s with
 |.dead=>k .dead
 |.cells n g T=>k (.cells n g T)
 |.scells n g=>k (.scells n g)
 |.row v l n g T=>k (.row v l n g T)
 |.srow v l n g=>k (.srow v l n g)
 |.deep v l n c m p g T T' ho=>k (.deep v l n c m p g T T' ho)
 |.mpi kk t h v=>k (.mpi kk t h v)
 |.mps kd h c m p T' ho=>k (.mps kd h c m p T' ho)
 |.cus Q=>k (.cus Q)
theorem bP7{α:Sort u}(s:SO)(k:SO->α):b74 s k=k s:=by cases s<;>rfl
def aJ7{α:Sort u}(H:List SO)(k:List SO->α):α:=
 match H with
 | []=>k []
 |s::r=>b74 s λs=>aJ7 r λr=>k (s::r)
theorem am9{α:Sort u}:∀(H:List SO)(k:List SO->α),aJ7 H k=k H
 | [],k=>rfl
 |s::r,k=>by simp only[aJ7,bP7];exact am9 r _
def tinf(P:Program)(t:TypeId):Option (Nat×Bool):=
 match P.info? t,P.underlying t with
 |some i,some d=>some (i.size,match d with|.struct _|.array _ _=>true|_=>false)
 |_,_=>none
def tfld(P:Program)(t:TypeId)(f:Nat):Option (Nat×Nat×Bool):=
 match P.underlying t with
 |some (.struct fs)=>match fs[f]? with
  |some fd=>match tinf P fd.type with
   |some (s,a)=>some (fd.offset,s,a)
   |none=>none
  |none=>none
 |_=>none
def bU9(P:Program)(t:TypeId):Option (List (Nat×Nat)):=
 match P.underlying t with
 |some (.struct fs)=>fs.toList.mapM (λf=>(P.info? f.type).map λi=>(f.offset,i.size))
 |_=>none
def tarr(P:Program)(t:TypeId):Option (Nat×Nat×Bool):=
 match P.underlying t with
 |some (.array len e)=>match tinf P e with
  |some (s,a)=>some (len,s,a)
  |none=>none
 |_=>none
def am4(P:Program)(t:TypeId):Option (List Value):=
 match P.info? t with
 |some i=>match i.zero with
  |some z=>if z.cells.size=i.size/\z.cells.toList.all (·.oneCell')=true then some z.cells.toList else none
  |none=>none
 |none=>none
def tsl(P:Program)(t:TypeId):Option (TypeId×Nat×Nat):=
 match P.underlying t with
 |some (.slice e)=>match P.info? e with
  |some i=>some (e,i.size,i.bytes)
  |none=>none
 |_=>none
def by8(P:Program)(t:TypeId):Bool:=
 match P.underlying t with
 |some (.interface _)=>false
 |some _=>true
 |none=>false
def tint(P:Program)(t:TypeId):Option IntKind:=
 match P.underlying t with
 |some (.int k)=>some k
 |_=>none
def ac4:Nat->SV->Bool
 |0,_=>false
 |f+1,sv=>match sv with
  |.own ..=>false
  |.osl ..=>false
  |.ownAt ..=>false
  |.win ..=>false
  |.omap _=>false
  |.pin ..=>false
  |.part ..=>false
  |.agg n g=>(List.range n).all λi=>ac4 f (g i)
  |.tup n g=>(List.range n).all λi=>ac4 f (g i)
  |.fn _ n g=>(List.range n).all λi=>ac4 f (g i)
  |.fnb _ n g=>(List.range n).all λi=>ac4 f (g i)
  |.slP ..=>false
  |.refP _=>false
  |.ifc _ g=>ac4 f (g 0)
  |_=>true
def ofV:Value->SV
 |.int k n=> .int k n
 |.bool b=> .lit b
 |.string s=> .str s
 |.slice none 0 0=> .cap0
 |.nilFunc=> .nilfn
 |.agg ⟨[]⟩=> .agg 0 (λ_=> .any)
 |_=> .any
abbrev Tmps:=List (Nat×SV)
def ac5:Tmps->Nat->SV
 | [],_=> .any
 |(k,s)::r,t=>if k=t then s else ac5 r t
def evO(N:Nat)(τ:Tmps):Operand->SV
 |.tmp t=>if t<N then ac5 τ t else .any
 |.const v=>ofV v
 |.func f=> .fn f 0 (λ_=> .any)
 |.global _=> .any
def cellsOf:SV->Option (Nat×(Nat->SV))
 |.agg n g=>some (n,g)
 |.any=>none
 |.con v=>match v.oneCell' with
  |true=>some (1,λ_=> .con v)
  |false=>none
 |.tup ..=>none
 |s=>some (1,λ_=>s)
def i64ok(n:Int):Prop:= -9223372036854775808<=n/\n<=9223372036854775807
def inK(k:IntKind)(n:Int):Prop:=match k with|.i64=>i64ok n|_=>True
def fitK(k:IntKind)(n:Int):Int:=match k with|.i64=>n|k=>k.wrap n
inductive Eff:Type
 |keep
 |new (so:SO)
 |sets (l:List (Nat×SO))
structure Yd:Type where
 ask:Prop
 val:SV
 eff:Eff
def ac0(s:SV):Option Yd:=some ⟨True,s,.keep⟩
def binI(op:BinOp)(k:IntKind)(x y:Int):Option Yd:=
 match op with
 |.add=>some ⟨Aq (inK k (x+y)),.int k (fitK k (x+y)),.keep⟩
 |.sub=>some ⟨Aq (inK k (x-y)),.int k (fitK k (x-y)),.keep⟩
 |.mul=>some ⟨Aq (inK k (x*y)),.int k (fitK k (x*y)),.keep⟩
 |.quo=>some ⟨Aq (y≠0/\inK k (x.tdiv y)),.int k (fitK k (x.tdiv y)),.keep⟩
 |.rem=>some ⟨Aq (y≠0),.int k (x.tmod y),.keep⟩
 |.and=>ac0 (.int k (bits .and k x y))
 |.or=>ac0 (.int k (bits .or k x y))
 |.xor=>ac0 (.int k (bits .xor k x y))
 |.andNot=>ac0 (.int k (bits .andNot k x y))
 |.eql=>ac0 (.bool (decide (x=y)))
 |.neq=>ac0 (.bool (decide (x≠y)))
 |.lss=>ac0 (.bool (decide (x<y)))
 |.leq=>ac0 (.bool (decide (x<=y)))
 |.gtr=>ac0 (.bool (decide (y<x)))
 |.geq=>ac0 (.bool (decide (y<=x)))
 |_=>none
def shI(op:BinOp)(k:IntKind)(x y:Int):Option Yd:=
 match op with
 |.shl=>some ⟨Aq ((0<=y/\y<=k.bits)/\inK k (x*2 ^ y.toNat)),.int k (fitK k (x*2 ^ y.toNat)),.keep⟩
 |.shr=>some ⟨Aq (0<=y/\y<=k.bits),.int k (x/2 ^ y.toNat),.keep⟩
 |_=>none
def asB:SV->Option Bool
 |.bool b=>some b
 |.lit b=>some b
 |_=>none
inductive CK:Type
 |int
 |bool
 |str
def eqC(k:CK)(s r:SV):Option Bool:=
 match k with
 |.int=>match s,r with
  |.int k a,.int k' b=>if k=k' then some (decide (a=b))else none
  |_,_=>none
 |.bool=>match asB s,asB r with
  |some a,some b=>some (a==b)
  |_,_=>none
 |.str=>match s,r with
  |.str a,.str b=>some (a.toList==b.toList)
  |_,_=>none
def af3(g h:Nat->SV):List CK->Nat->Option Bool
 | [],_=>some true
 |k::ks,i=>match eqC k (g i) (h i),af3 g h ks (i+1)with
  |some c,some t=>some (c&&t)
  |_,_=>none
def bC4:List (TypeId×List CK)->TypeId->Option (List CK)
 | [],_=>none
 |(t,ks)::r,u=>if t=u then some ks else bC4 r u
def isSh:BinOp->Bool
 |.shl=>true
 |.shr=>true
 |_=>false
def bk5(P:Program)(t:TypeId):Bool:=match P.underlying t with|some .bool=>true|_=>false
def aT7(P:Program)(t:TypeId):Bool:=match P.underlying t with|some (.func ..)=>true|_=>false
def aD5(op:BinOp)(b:Bool):Option Yd:=
 match op with
 |.eql=>ac0 (.bool b)
 |.neq=>ac0 (.bool !b)
 |_=>none
def ev2(op:BinOp)(eqs:List (TypeId×List CK))(kb kf:Bool)(t:TypeId)(x y:SV):Option Yd:=
 match x,y with
 |.int k a,.int k' b=>if isSh op=true then shI op k a b else if k=k' then binI op k a b else none
 |.str a,.str b=>aD5 op (a.toList==b.toList)
 |.fn ..,.nilfn=>if kf=true then aD5 op false else none
 |.nilfn,.nilfn=>if kf=true then aD5 op true else none
 |.agg n g,.agg m h=>match bC4 eqs t with
  | some ks=>if n=ks.length/\m=n then match af3 g h ks 0 with
    |some b=>aD5 op b
    |none=>none
   else none
  |none=>none
 |x,y=>match asB x,asB y with
  |some a,some b=>if kb=true then aD5 op (a==b)else none
  |_,_=>none
def aR4(op:BinOp)(x:SV):Option Yd:=
 match x with
 |.nilsl=>match op with
  |.eql=>ac0 (.lit true)
  |.neq=>ac0 (.lit false)
  |_=>none
 |.slN ..=>match op with
  |.eql=>ac0 (.lit false)
  |.neq=>ac0 (.lit true)
  |_=>none
 |_=>none
def b71:Operand->Bool
 |.const v=>match v with
  |.slice a _ _=>a.isNone
  |_=>false
 |_=>false
def ev1(op:UnOp)(x:SV):Option Yd:=
 match op,x with
 |.not,.bool b=>ac0 (.bool !b)
 |.not,.lit b=>ac0 (.lit !b)
 |.neg,.int k n=>some ⟨Aq (inK k (0-n)),.int k (fitK k (0-n)),.keep⟩
 |_,_=>none
def ld(ti:Nat×Bool)(n:Nat)(g:Nat->SV)(off:Nat):Option SV:=
 if ti.2=true then(if off+ti.1<=n then some (.agg ti.1 (λj=>g (off+j)))else none)
 else if off<n then some (g off)else none
def Fit(a b:Nat):Prop:=match decide (a<=b)with
 |true=>True
 |false=>False
theorem Fit.le{a b:Nat}(h:Fit a b):a<=b:=by
 unfold Fit at h;cases hd:decide (a<=b)with
 |true=>exact of_decide_eq_true hd
 |false=>rw[hd]at h;exact h.elim
def FitA(a b:Nat)(p:Prop):Prop:=match decide (a<=b)with
 |true=>p
 |false=>False
theorem FitA.out{a b:Nat}{p:Prop}(h:FitA a b p):a<=b/\p:=by
 unfold FitA at h;cases hd:decide (a<=b)with
 |true=>rw[hd]at h;exact⟨of_decide_eq_true hd,h⟩
 |false=>rw[hd]at h;exact h.elim
def ldn(ti:Nat×Bool):Nat:=match ti.2 with
 |true=>ti.1
 |false=>1
def ldv(ti:Nat×Bool)(g:Nat->SV)(off:Nat):SV:=match ti.2 with
 |true=> .agg ti.1 (λj=>g (off+j))
 |false=>g off
theorem bO6{ti:Nat×Bool}{n:Nat}{g:Nat->SV}{off:Nat}(h:off+ldn ti<=n):ld ti n g off=some (ldv ti g off):=by
 obtain⟨m,a⟩:=ti;cases a with
 |true=>simp only[ld,ldv,ldn,xj]at h⊢;rw[ll h]
 |false=>simp only[ld,ldv,ldn,lH,xn]at h⊢;rw[ll (by omega)]
def as2(sv:SV)(f:Nat->SV)(j:Nat):SV:=match j with
 |0=>sv
 |j+1=>f (j+1)
def ad4(ti:Nat×Bool)(H:List SO):SV->Option Yd
 |.own k off=>match H.getD k .dead with
  |.cells n g _=>some ⟨Fit (off+ldn ti) n,ldv ti g off,.keep⟩
  |.scells n g=>some ⟨Fit (off+ldn ti) n,ldv ti g off,.keep⟩
  |_=>none
 |.ref n g=>some ⟨Fit (0+ldn ti) n,ldv ti g 0,.keep⟩
 |.refP g=>(ld ti 1 (λ_=>g 0) 0).map λs=>⟨True,s,.keep⟩
 |.ownAt k ver i m off=>match H.getD k .dead with
  |.row ver' len n g _=>if ver=ver'/\m=n then some ⟨FitA (off+ldn ti) n (Aq (i<len)),ldv ti (g i) off,.keep⟩else none
  |.srow ver' len n g=>if ver=ver'/\m=n then some ⟨FitA (off+ldn ti) n (Aq (i<len)),ldv ti (g i) off,.keep⟩else none
  |.deep ver' len n _ _ _ g _ _ ho=>if ver=ver'/\m=n then(match off with
   |0=>match ho with
    |some (h,sv)=>(ld ti n (as2 sv (g i)) 0).map λs=>⟨Aq (i<len/\h=i),s,.keep⟩
    |none=>none
   |o+1=>(ld ti (n-1) (λj=>g i (j+1)) o).map λs=>⟨Aq (i<len),s,.keep⟩)else none
  |_=>none
 |_=>none
def selS(c:Bool)(a b:SV):SV:=match a,b with
 |.int k x,.int k' y=>if k=k' then .int k (cond c x y)else cond c (.int k x) (.int k' y)
 |.bool x,.bool y=> .bool (cond c x y)
 |.str x,.str y=> .str (cond c x y)
 |.lit x,.lit y=>match x,y with
  |true,true=> .lit true
  |false,false=> .lit false
  |x,y=>cond c (.lit x) (.lit y)
 |.sl l n g,.sl m n' h=>if n=n' then .sl (cond c l m) n (λi j=>selS c (g i j) (h i j))else cond c (.sl l n g) (.sl m n' h)
 |a,b=>cond c a b
theorem ae4{c:Bool}:∀{a b:SV},selS c a b=cond c a b:=by
 intro a;induction a with
 |sl l n g ih=>
  intro b;cases b<;>first|(simp only[selS];done)|skip
  rename_i m n' h;simp only[selS];split
  ·rename_i hn;subst hn;cases c with
   |true=>simp only[ur];congr;funext i j;exact ih i j
   |false=>simp only[cond_false];congr;funext i j;exact ih i j
  ·rfl
 |int k x=>
  intro b;cases b<;>first|(simp only[selS];done)|skip
  simp only[selS];split
  ·rename_i h;subst h;cases c<;>rfl
  ·rfl
 |bool x=>intro b;cases b<;>first|(simp only[selS];done)|(cases c<;>rfl)
 |str x=>intro b;cases b<;>first|(simp only[selS];done)|(cases c<;>rfl)
 |lit x=>
  intro b;cases b<;>first|(simp only[selS];done)|skip
  rename_i y;cases x<;>cases y<;>cases c<;>rfl
 |_=>intro b;simp only[selS]
def updF(g:Nat->SV)(off m:Nat)(f:Nat->SV)(j:Nat):SV:=selS (decide (off<=j/\j<off+m)) (f (j-off)) (g j)
def updR(g:Nat->Nat->SV)(i off m:Nat)(f:Nat->SV)(i' j:Nat):SV:=selS (decide (i'=i/\off<=j/\j<off+m)) (f (j-off)) (g i' j)
def ao5(ti:Nat×Bool)(H:List SO)(addr val:SV):Option Yd:=
 match cellsOf val with
 |some (m,f)=>if m=ti.1 then match addr with
  |.own k off=>match H.getD k .dead with
   |.cells n g T=>match Nat.beq m n with
    |true=>some ⟨Fit (off+m) n,.any,.sets [(k,.cells n f T)]⟩
    |false=>some ⟨Fit (off+m) n,.any,.sets [(k,.cells n (updF g off m f) T)]⟩
   |_=>none
  |.ownAt k ver i m' off=>match H.getD k .dead with
   | .row ver' len n g T=>if(ver=ver'/\m'=n)/\(List.range m).all (λj=>ac4 6 (f j))=true then
     some ⟨FitA (off+m) n (Aq (i<len)),.any,.sets [(k,.row ver len n (updR g i off m f) T)]⟩else none
   |.deep ver' len n c mm p g T T' ho=>match ho with
    | some q=>if ver=ver'/\m'=n/\off=0/\m=1 then
      some ⟨Aq (i<len/\q.1=i),.any,.sets [(k,.deep ver len n c mm p g T T' (some (q.1,f 0)))]⟩else none
    |none=>none
   |_=>none
  |_=>none
  else none
 |none=>none
def ae9(fd:Nat×Nat×Bool):SV->Option Yd
 |.own k o=>if fd.2.1=0 then none else ac0 (.own k (o+fd.1))
 |.ref n g=>if fd.2.1=0\/n<fd.1 then none else ac0 (.ref (n-fd.1) (λj=>g (fd.1+j)))
 |.ownAt k ver i n o=>if fd.2.1=0 then none else ac0 (.ownAt k ver i n (o+fd.1))
 |_=>none
def part(ti:Nat×Bool)(n:Nat)(g:Nat->SV)(off:Nat):Option SV:=ld ti n g off
def aj9(i:Int)(len:Nat):Prop:=0<=i/\i<len
def ac2(es:Nat)(H:List SO)(i:Int):SV->Option Yd
 |.sl len n g=>if n=es then some ⟨Aq (aj9 i len),.ref n (g i.toNat),.keep⟩else none
 |.osl k ver=>match H.getD k .dead with
  |.row ver' len n _ _=>if ver=ver'/\n=es then some ⟨Aq (aj9 i len),.ownAt k ver i.toNat n 0,.keep⟩else none
  |.srow ver' len n g=>if ver=ver'/\n=es then some ⟨Aq (aj9 i len),.ref n (g i.toNat),.keep⟩else none
  |.deep ver' len n _ _ _ _ _ _ _=>if ver=ver'/\n=es then some ⟨Aq (aj9 i len),.ownAt k ver i.toNat n 0,.keep⟩else none
  |_=>none
 |.slP n g=>if es=1 then some ⟨Aq (aj9 i n),.refP (λ_=>g i.toNat),.keep⟩else none
 |.win k ver m lo l=>match H.getD k .dead with
  |.row ver' _ n _ _=>if(ver=ver'/\m=n)/\n=es then some ⟨Aq (aj9 i l),.ownAt k ver (lo+i.toNat) n 0,.keep⟩else none
  |_=>none
 |_=>none
def ae3(len es:Nat)(i:Int):SV->Option Yd
 |.own k o=>some ⟨Aq (aj9 i len),.own k (o+i.toNat*es),.keep⟩
 |.ref n g=>if len*es<=n then some ⟨Aq (aj9 i len),.ref (n-i.toNat*es) (λj=>g (i.toNat*es+j)),.keep⟩else none
 |.ownAt k ver x n o=>some ⟨Aq (aj9 i len),.ownAt k ver x n (o+i.toNat*es),.keep⟩
 |_=>none
def aO8(len:Nat)(lo hi mx:Option Int):Prop:=0<=lo.getD 0/\lo.getD 0<=hi.getD len/\hi.getD len<=mx.getD len/\mx.getD len<=len
def ag7(es:Nat)(H:List SO)(lo hi mx:Option Int):SV->Option Yd
 |.sl len n g=>if n=es/\(mx.isSome=true->hi.isSome=true)then some ⟨Aq (aO8 len lo hi mx),.sl (hi.getD len-lo.getD 0).toNat n (λi j=>g ((lo.getD 0).toNat+i) j),.keep⟩else none
 |.osl k ver=>match H.getD k .dead with
  |.srow ver' len n g=>if ver=ver'/\n=es/\(mx.isSome=true->hi.isSome=true)then some ⟨Aq (aO8 len lo hi mx),.sl (hi.getD len-lo.getD 0).toNat n (λi j=>g ((lo.getD 0).toNat+i) j),.keep⟩else none
  |.row ver' len n _ _=>if ver=ver'/\n=es/\mx.isSome=false then some ⟨Aq (aO8 len lo hi none),.win k ver n (lo.getD 0).toNat (hi.getD len-lo.getD 0).toNat,.keep⟩else none
  |.deep ver' len n _ _ _ _ _ _ _=>if ver=ver'/\n=es/\mx.isSome=false then some ⟨Aq (aO8 len lo hi none),.win k ver n (lo.getD 0).toNat (hi.getD len-lo.getD 0).toNat,.keep⟩else none
  |_=>none
 |.win k ver m lo0 len=>match H.getD k .dead with
  |.row ver' _ n _ _=>if(ver=ver'/\m=n)/\n=es/\mx.isSome=false then some ⟨Aq (aO8 len lo hi none),.win k ver n (lo0+(lo.getD 0).toNat) (hi.getD len-lo.getD 0).toNat,.keep⟩else none
  |_=>none
 |_=>none
def al5(n:Nat)(lo hi:Option Int):SV->Option Yd
 |.ref m g=>match lo,hi with
  |none,some h=>if n<=m then some ⟨Aq (0<=h/\h<=n),.sl h.toNat 1 (λi _=>g i),.keep⟩else none
  |some l,none=>if n<=m then some ⟨Aq (0<=l/\l<=n),.sl (n-l.toNat) 1 (λi _=>g (l.toNat+i)),.keep⟩else none
  |_,_=>none
 |.ownAt k ver i m off=>match lo,hi with
  |none,some h=>some ⟨Aq (0<=h/\h<=n),.part k ver (i*m+off) h.toNat,.keep⟩
  |_,_=>none
 |_=>none
def aD6:SV->Option Yd
 |.sl ..=>ac0 .cap0
 |.cap0=>ac0 .cap0
 |_=>none
def aj0(H:List SO):SV->Option (Nat×Nat×(Nat->Nat->SV))
 |.sl len n g=>some (len,n,g)
 |.slN len n g=>some (len,n,g)
 |.osl k ver=>match H.getD k .dead with
  |.row ver' len n g _=>if ver=ver' then some (len,n,g)else none
  |.srow ver' len n g=>if ver=ver' then some (len,n,g)else none
  |_=>none
 |.win k ver m lo len=>match H.getD k .dead with
  |.row ver' _ n g _=>if ver=ver'/\m=n then some (len,n,λi j=>g (lo+i) j)else none
  |_=>none
 |_=>none
def lenOf(H:List SO):SV->Option Nat
 |.cap0=>some 0
 |.nilsl=>some 0
 |.win _ _ _ _ len=>some len
 |.str s=>some s.size
 |.slP n _=>some n
 |.osl k ver=>match H.getD k .dead with
  |.deep ver' len _ _ _ _ _ _ _ _=>if ver=ver' then some len else none
  |_=>(aj0 H (.osl k ver)).map (·.1)
 |s=>(aj0 H s).map (·.1)
def appG(len:Nat)(g h:Nat->Nat->SV)(i j:Nat):SV:=selS (decide (i<len)) (g i j) (h (i-len) j)
def room(n b:Nat):Prop:=n<=9223372036854775807/\n*b<=140737488355328
def bv1(k:Nat):SV->Bool
 |.osl k2 _=>k2 !=k
 |.win k2 _ _ _ _=>k2 !=k
 |_=>true
def foldI(f:Int->Int->Int)(k:IntKind):Int->List SV->Option Yd
 |a,[]=>ac0 (.int k a)
 |a,.int k' b::r=>if k=k' then foldI f k (f a b) r else none
 |_,_::_=>none
def bo7(f:Int->Int->Int):List SV->Option Yd
 |.int k a::r=>foldI f k a r
 |_=>none
def aq2(k:IntKind):SV->Option Yd
 |.int _ n=>some ⟨Aq (inK k n),.int k (fitK k n),.keep⟩
 |_=>none
def aR7(ai:Nat×Nat×Bool)(i:Int):SV->Option Yd
 | .agg n g=>if n=ai.1*ai.2.1 then
   (if ai.2.2=true then some ⟨Aq (aj9 i ai.1),.agg ai.2.1 (λj=>g (i.toNat*ai.2.1+j)),.keep⟩
     else if ai.2.1=1 then some ⟨Aq (aj9 i ai.1),g i.toNat,.keep⟩else none)else none
 |_=>none
def tstr(P:Program)(t:TypeId):Bool:=match P.underlying t with
 |some .string=>true
 |_=>false
def _root_.Go.Proofs.YtnhecfkpiojmhaaGreat.bR9(s:ByteArray)(i:Nat):Int:=((s.data.getD i 0).toNat:Int)
def ax0(i:Int):SV->Option Yd
 |.str s=>some ⟨Aq (aj9 i s.size),.int .u8 (bR9 s i.toNat),.keep⟩
 |_=>none
def bh7:SV->Option Yd
 |.str s=>ac0 (.int .i64 (s.size:Int))
 |_=>none
def aH1(fd:Nat×Nat×Bool):SV->Option Yd
 |.agg n g=>(ld (fd.2.1,fd.2.2) n g fd.1).map λs=>⟨True,s,.keep⟩
 |_=>none
def aq1(i:Nat):SV->Option Yd
 |.tup n g=>if i<n then ac0 (g i)else none
 |_=>none
def bC7(s:SV):Option Yd:=
 match s with
 |.own ..=>ac0 s
 |.ref ..=>ac0 s
 |.ownAt ..=>ac0 s
 |.fn ..=>ac0 s
 |_=>none
def aj6(te:TypeId×Nat×Nat)(H:List SO)(s x:SV):Option Yd:=
 match s with
 |.osl k ver=>match x with
  |.osl k2 ver2=>match H.getD k .dead with
   |.deep ver' len n c m p g T T' ho=>match H.getD k2 .dead with
    |.deep ver2' len2 n2 _ _ _ g2 _ _ ho2=>match ho with
     |none=>match ho2 with
      | some (h2,sv)=>if((ver=ver'/\ver2=ver2')/\n=n2/\n=te.2.1/\T=te.1)/\(len2=1/\h2=0)then
        some ⟨Aq (room (len+1) te.2.2),.osl k (ver+1),.sets [(k,.deep (ver+1) (len+1) n c m p (appG len g g2) T T' (some (len,sv)))]⟩else none
      |none=>none
     |some _=>none
    |_=>none
   |_=>none
  |_=>none
 |_=>none
def ak5(te:TypeId×Nat×Nat)(H:List SO)(nm:Nat)(s x:SV):Option Yd:=
 match aj0 H x with
 |some (len2,n2,h)=>if n2=te.2.1/\0<n2 then match s with
  |.osl k ver=>match H.getD k .dead with
   | .row ver' len n g T=>if(ver=ver'/\n=n2/\T=te.1)/\bv1 k x=true then
     some ⟨Aq (room (len+len2) te.2.2),.osl k (ver+1),.sets [(k,.row (ver+1) (len+len2) n (appG len g h) T)]⟩else none
   |.deep ver' len n c m p g T T' ho=>match ho with
    | none=>if((ver=ver'/\n=n2/\T=te.1)/\len2=1)/\ac4 6 (h 0 0)=true then
      some ⟨Aq (room (len+1) te.2.2),.osl k (ver+1),.sets [(k,.deep (ver+1) (len+1) n c m p (appG len g h) T T' (some (len,h 0 0)))]⟩else none
    |some _=>none
   |_=>none
  |.cap0=>some ⟨Aq (room len2 te.2.2),.osl nm 0,.new (.row 0 len2 n2 h te.1)⟩
  |_=>none
  else none
 |none=>aj6 te H s x
def cpyG(lo m:Nat)(g h:Nat->Nat->SV)(i j:Nat):SV:=selS (decide (lo<=i/\i<lo+m)) (h (i-lo) j) (g i j)
def cpyP(n o m:Nat)(g h:Nat->Nat->SV)(i j:Nat):SV:=selS (decide (o<=i*n+j/\i*n+j<o+m)) (h (i*n+j-o) 0) (g i j)
def aY5(te:TypeId×Nat×Nat)(H:List SO)(d x:SV):Option Yd:=
 match aj0 H x with
 |some (len2,n2,h)=>match d with
  |.osl k ver=>match H.getD k .dead with
   | .row ver' len n g T=>if((ver=ver'/\n=n2)/\n2=te.2.1/\0<n2)/\bv1 k x=true then
     some ⟨True,.int .i64 (Nat.min len2 len:Nat),.sets [(k,.row ver len n (cpyG 0 (Nat.min len2 len) g h) T)]⟩else none
   |_=>none
  |.win k ver m lo wl=>match H.getD k .dead with
   | .row ver' len n g T=>if((ver=ver'/\n=n2/\m=n)/\n2=te.2.1/\0<n2)/\bv1 k x=true then
     some ⟨True,.int .i64 (Nat.min len2 wl:Nat),.sets [(k,.row ver len n (cpyG lo (Nat.min len2 wl) g h) T)]⟩else none
   |_=>none
  |.part k ver o wl=>match H.getD k .dead with
   | .row ver' len n g T=>if((ver=ver'/\n2=1)/\te.2.1=1/\0<n)/\bv1 k x=true then
     some ⟨Aq (o+wl<=len*n),.int .i64 (Nat.min len2 wl:Nat),.sets [(k,.row ver len n (cpyP n o (Nat.min len2 wl) g h) T)]⟩else none
   |_=>none
  |_=>none
 |none=>none
def b85(z:List Value)(_ j:Nat):SV:=ofV (z.getD j undef)
def aH2(te:TypeId×Nat×Nat)(z:List Value)(H:List SO):SV->Option Yd
 |.win k ver m lo wl=>match H.getD k .dead with
  | .row ver' len n g T=>if(ver=ver'/\m=n)/\(n=te.2.1/\0<n)/\z.length=n then
    some ⟨True,.tup 0 (λ_=> .any),.sets [(k,.row ver len n (cpyG lo wl g (b85 z)) T)]⟩else none
  |_=>none
 |_=>none
def aU6(place:Nat->Option (Nat×Nat))(n:Nat):(Nat->SV)->List (Nat×SV)->Option (Nat->SV)
 |g,[]=>some g
 |g,(i,s)::r=>match place i,cellsOf s with
  |some (off,sz),some (m,f)=>if m=sz/\off+m<=n then aU6 place n (updF g off m f) r else none
  |_,_=>none
def ax5(z:List Value)(i:Nat):SV:=ofV (z.getD i undef)
def aD8(z:List Value)(fl:List (Nat×Nat))(parts:List (Nat×SV)):Option Yd:=
 match aU6 (λi=>fl[i]?) z.length (ax5 z) parts with
 |some g=>ac0 (.agg z.length g)
 |none=>none
def aD9(z:List Value)(es:Nat)(parts:List (Nat×SV)):Option Yd:=
 match aU6 (λi=>some (i*es,es)) z.length (ax5 z) parts with
 |some g=>ac0 (.agg z.length g)
 |none=>none
def aP3(n:Nat)(g:Nat->SV):Nat->Nat->Nat->SV
 |0,_,_=> .any
 |m+1,i,j=>match m with
  |0=>g j
  |_=>selS (decide (i=m)) (g (m*n+j)) (aP3 n g m i j)
def a92(te:TypeId×Nat×Nat)(z:List Value)(nm len:Nat)(g:Nat->SV):Option Yd:=match len with
 | 1=>if z.length=te.2.1/\0<te.2.1/\te.2.1<=16777216/\(List.range te.2.1).all (λk=>Nat.beq k 0||ac4 6 (g k))=true then
   some ⟨True,.osl nm 0,.new (.deep 0 1 te.2.1 0 (λ_=>0) (λ_ _ _=> .any) (λ_=>g) te.1 te.1 (some (0,g 0)))⟩else none
 |_=>none
def a90(te:TypeId×Nat×Nat)(z:List Value)(len:Nat)(g:Nat->SV):Option Yd:=
 if z.length=te.2.1/\te.2.1=1/\1<len/\len<=1024 then some ⟨True,.slP len g,.keep⟩else none
def ao2(te:TypeId×Nat×Nat)(z:List Value)(nm len:Nat)(parts:List (Nat×SV)):Option Yd:=
 match aU6 (λi=>some (i*te.2.1,te.2.1)) (len*te.2.1) (λk=>ax5 z (k%z.length)) parts with
 | some g=>if z.length=te.2.1/\0<te.2.1/\len<=1024/\len*te.2.1<=16777216/\(List.range (len*te.2.1)).all (λk=>ac4 6 (g k))=true then
   some (match Nat.blt 1 len with
    |true=>⟨True,.sl len te.2.1 (aP3 te.2.1 g len),.keep⟩
    |false=>⟨True,.osl nm 0,.new (.row 0 len te.2.1 (aP3 te.2.1 g len) te.1)⟩)else(match Nat.blt 1 len with
    |true=>a90 te z len g
    |false=>a92 te z nm len g)
 |none=>none
def as3(te:TypeId×Nat×Nat)(z:List Value)(nm:Nat)(l c:Int):Option Yd:=
 if z.length=te.2.1/\0<te.2.1 then some ⟨Aq (0<=l/\l<=c/\(te.2.2:Int)*c<=140737488355328/\c<=9223372036854775807),.osl nm 0,.new (.row 0 l.toNat te.2.1 (b85 z) te.1)⟩else none
def tmap(P:Program)(t:TypeId):Option (TypeId×TypeId):=match P.underlying t with
 |some (.map k e)=>some (k,e)
 |_=>none
def tzv(P:Program)(t:TypeId):Option Value:=match P.info? t with
 |some i=>i.zero
 |none=>none
def kkOf(P:Program)(k:TypeId):Option KK:=match P.underlying k with
 |some (.int q)=>some (.one q)
 |some (.array n e)=>match P.underlying e with
  |some (.int q)=>match P.info? e with
   |some i=>if i.size=1 then some (.arr n q)else none
   |none=>none
  |_=>none
 |_=>none
def keyL(q:IntKind)(g:Nat->SV):List Nat->Option (List Int)
 | []=>some []
 |i::r=>match g i with
  | .int q' x=>if q'=q then match keyL q g r with
    |some l=>some (x::l)
    |none=>none
   else none
  |_=>none
def keyS(kk:KK)(s:SV):Option (List Int):=match kk with
 |.one q=>match s with
  |.int q' x=>if q'=q then some [x]else none
  |_=>none
 |.arr n q=>match s with
  |.agg m g=>if m=n then keyL q g (List.range n)else none
  |_=>none
def putH(has:List Int->Bool)(l:List Int)(x:List Int):Bool:=decide (x=l)||has x
def putV(val:List Int->SV)(l:List Int)(v:SV)(x:List Int):SV:=selS (decide (x=l)) v (val x)
def putI(has:Int->Bool)(y:Int)(x:Int):Bool:=decide (x=y)||has x
def av0(P:Program)(t:TypeId)(nm:Nat):Option Yd:=match tmap P t with
 |some (k,e)=>match kkOf P k with
  |some kk=>match tsl P e with
   |some te=>match kk with
    |.one q=>some ⟨True,.omap nm,.new (.mps q (λ_=>false) te.2.1 (λ_=>0) (λ_ _ _=> .any) te.1 none)⟩
    |_=>none
   |none=>some ⟨True,.omap nm,.new (.mpi kk false (λ_=>false) (λ_=> .any))⟩
  |none=>none
 |none=>none
def cq8(v:SV)(b:Bool)(i:Nat):SV:=match i with
 |0=>v
 |_=> .bool b
def ao1(kk:KK)(z:SV)(H:List SO)(x idx:SV)(ok:Bool):Option Yd:=match x with
 |.omap k=>match H.getD k .dead with
  | .mpi kk' tot has val=>if kk'=kk then match keyS kk idx with
    |some l=>match tot with
     |true=>match ok with
      |true=>none
      |false=>match z with
       |.cap0=>some ⟨True,val l,.keep⟩
       |_=>none
     |false=>match ok with
      |true=>some ⟨True,.tup 2 (cq8 (selS (has l) (val l) z) (has l)),.keep⟩
      |false=>some ⟨True,selS (has l) (val l) z,.keep⟩
    |none=>none
   else none
  |.mps kd has c m p T' ho=>match ok with
   |true=>none
   |false=>match ho with
    |some q=>match keyS kk idx with
     |some l=>match z with
      |.cap0=>if kk=.one kd then some ⟨Aq (q.1=l.getD 0 0),q.2.1,.keep⟩else none
      |_=>none
     |none=>none
    |none=>none
  |_=>none
 |_=>none
def aD2(kk:KK)(H:List SO)(x idx v:SV):Option Yd:=match x with
 |.omap k=>match H.getD k .dead with
  | .mpi kk' tot has val=>if kk'=kk then match keyS kk idx with
    |some l=>if ac4 6 v=true then some ⟨True,.any,.sets [(k,.mpi kk tot (putH has l) (putV val l v))]⟩else none
    |none=>none
   else none
  |.mps kd has c m p T' ho=>match ho with
   |some q=>match keyS kk idx with
    |some l=>if kk=.one kd then some ⟨Aq (q.1=l.getD 0 0),.any,.sets [(k,.mps kd (putI has q.1) c m p T' (some (q.1,v,true)))]⟩else none
    |none=>none
   |none=>none
  |_=>none
 |_=>none
structure FSpec:Type where
 f:FuncId
 eff:Bool
 run:List SV->List SO->Nat->Option Yd
 box:Option TypeId:=none
def boxB(T:TypeId):List FSpec->Bool
 | []=>false
 |s::r=>match s.box with
  |some U=>match Nat.beq U T with
   |true=>true
   |false=>boxB T r
  |none=>boxB T r
def bo1(specs:List FSpec)(f:FuncId):Option FSpec:=
 match specs with
 | []=>none
 |s::r=>if s.f=f then some s else bo1 r f
def aQ0(H:List SO):Nat->SV->List Nat
 |0,_=>[]
 |f+1,sv=>match sv with
  |.own k _=>match H.getD k .dead with
   |.cells n g _=>((List.range n).flatMap λi=>aQ0 H f (g i))++[k]
   |_=>[]
  |.osl k _=>match H.getD k .dead with
   |.row ..=>[k]
   |.deep ..=>[k]
   |_=>[]
  |.win k _ _ _ _=>match H.getD k .dead with
   |.row ..=>[k]
   |.deep ..=>[k]
   |_=>[]
  |.agg n g=>(List.range n).flatMap λi=>aQ0 H f (g i)
  |.tup n g=>(List.range n).flatMap λi=>aQ0 H f (g i)
  |.fn _ n g=>(List.range n).flatMap λi=>aQ0 H f (g i)
  |.fnb _ n g=>(List.range n).flatMap λi=>aQ0 H f (g i)
  |.ifc _ g=>aQ0 H f (g 0)
  |_=>[]
def frzO(H:List SO)(k:Nat):Option SO:=
 match H.getD k .dead with
 |.cells n g _=>if(List.range n).all (λi=>(pur H 6 (g i)).isSome)then some (.scells n (λi=>(pur H 6 (g i)).getD .any))else none
 |.row ver len n g _=>some (.srow ver len n g)
 |.deep ver len n c m p g _ _ ho=>match ho with
  |none=>some (.srow ver len n (bi5 c m p g))
  |some _=>none
 |_=>none
def au8:List SO->List Nat->Option (List (Nat×SO))
 |_,[]=>some []
 |H,k::r=>match frzO H k with
  |some so=>(au8 (H.set k so) r).map λl=>(k,so)::l
  |none=>au8 H r
def ad5(H:List SO)(l:List (Nat×SO)):List SO:=l.foldl (λH p=>H.set p.1 p.2) H
def aJ9(specs:List FSpec)(f:FuncId)(H:List SO)(nm:Nat)(args:List SV):Option Yd:=
 match bo1 specs f with
 |some s=>match s.run args H nm with
  |some y=>match y.eff with
   |.sets _=>match s.eff with
    |true=>some y
    |false=>none
   |_=>some y
  |none=>none
 |none=>none
open Go.RowKit
def appE(H:List SO):Eff->List SO
 |.keep=>H
 |.new _=>H
 |.sets l=>ad5 H l
def Goes(w0:World)(X0:Fr)(H:List SO)(E:Env)(w:World)(nm:Nat)(eff:Eff)(sv:SV)(v:Value)(w':World):Prop:=
 ∃E':Env,E.le E'/\aA1 (Xo X0 E H) w w'/\ab7 (Xo X0 E H) (Xo X0 E' (appE H eff)) w/\Rep w0 X0 (appE H eff) E' w'/\R w' (Xo X0 E' (appE H eff)) E' sv v/\
  ∀k,E' k≠none->E k≠none\/(k=nm/\∃so,eff=.new so)
def Free(H:List SO)(E:Env)(nm:Nat)(eff:Eff):Prop:=∀so,eff=.new so->E nm=none/\nm<H.length/\H.getD nm .dead=so
theorem Goes.pure{w0 X0 H E w nm sv v}(h:Rep w0 X0 H E w)(hr:R w (Xo X0 E H) E sv v):Goes w0 X0 H E w nm .keep sv v w:=
 ⟨E,Env.le_refl _,λ_ _ _=>rfl,ab7.refl _ _,h,hr,λ_ hk=> .inl hk⟩
theorem Goes.world{w0 X0 H E w w' nm sv v}(h:Rep w0 X0 H E w)(hb:Below w.heap.size w w')(hr:R w' (Xo X0 E H) E sv v):Goes w0 X0 H E w nm .keep sv v w':=
 ⟨E,Env.le_refl _,Rep.keeps hb,ab7.refl _ _,h.world hb,hr,λ_ hk=> .inl hk⟩
theorem ae6{w X E}:∀(f:Nat)(sv:SV)(v:Value),ac4 f sv=true->R w X E sv v->R w X E0 sv v:=by
 intro f;induction f with
 |zero=>intro sv v hp;simp[ac4]at hp
 |succ f ih=>
  intro sv v hp hr;cases hr with
  |any=>exact .any
  |int=>exact .int
  |bool=>exact .bool
  |lit=>exact .lit
  |str=>exact .str
  |nilfn=>exact .nilfn
  |cap0=>exact .cap0
  |fn hs hr=>exact .fn hs λi hi=>ih _ _ (ad1 hp hi) (hr i hi)
  |fnb hs hr=>exact .fnb hs λi hi=>ih _ _ (ad1 hp hi) (hr i hi)
  |agg hs ho hr=>exact .agg hs ho λi hi=>ih _ _ (ad1 hp hi) (hr i hi)
  |tup hs hr=>exact .tup hs λi hi=>ih _ _ (ad1 hp hi) (hr i hi)
  |sl0=>exact .sl0
  |sl hb hX hc hl ho hr=>exact .sl hb hX hc hl ho hr
  |ref hb hX hc ho hr=>exact .ref hb hX hc ho hr
  |own=>simp[ac4]at hp
  |osl=>simp[ac4]at hp
  |oslOld=>simp[ac4]at hp
  |ownAt=>simp[ac4]at hp
  |ownAtOld=>simp[ac4]at hp
  |win=>simp[ac4]at hp
  |winOld=>simp[ac4]at hp
  |con=>exact .con
  |slP=>simp[ac4]at hp
  |refP=>simp[ac4]at hp
  |ifc ho hr=>exact .ifc ho (ih _ _ hp hr)
  |pin=>simp[ac4]at hp
  |part=>simp[ac4]at hp
  |partOld=>simp[ac4]at hp
  |omap=>simp[ac4]at hp
  |omapOld=>simp[ac4]at hp
  |nilsl=>exact .nilsl
  |slN hr=>
   refine .slN ?_;cases hr with
   |sl0=>exact .sl0
   |sl hb hX hc hl ho hr=>exact .sl hb hX hc hl ho hr
theorem ak7{P:Program}{t:TypeId}{n:Nat}{a:Bool}(h:tinf P t=some (n,a))(w:World):(isAgg t).run P w=.ok a w/\(sizeOf t).run P w=.ok n w:=by
 unfold tinf at h;cases hi:P.info? t with
 |none=>simp[hi]at h
 |some i=>
  cases hd:P.underlying t with
  |none=>simp[hi,hd]at h
  |some d=>
   simp only[hi,hd,sk,Prod.mk.injEq]at h;obtain⟨rfl,rfl⟩:=h;refine⟨?_,by simp[sizeOf,typeInfo,hi]⟩;cases d<;>simp[isAgg,run_underlying hd]
theorem ah8{w X E}(v:Value):R w X E (ofV v) v:=by
 unfold ofV;split
 ·exact .int
 ·exact .lit
 ·exact .str
 ·exact .cap0
 ·exact .nilfn
 ·exact .agg rfl (λ_ h=>absurd h (ln _)) (λ_ h=>absurd h (ln _))
 ·exact .any
def aA4(n0:Option Nat)(w:World)(X:Nat->Prop)(ds:List Deferred):Prop:=
 (n0=none->ds=[])/\ds.Pairwise (·≠·)/\∀d∈ds,∃D,d={target:= .collected D,args:=#[]}/\(∀n,n0=some n->n<=D)/\w.heap[D]?=some (.deferred (some []))/\¬ X D
theorem aA4.nil(n0:Option Nat)(w:World)(X:Nat->Prop):aA4 n0 w X []:=⟨λ_=>rfl,List.Pairwise.nil,λ_ h=>(nomatch h)⟩
theorem aA4.mono{n0 w w' X X' ds}(h:aA4 n0 w X ds)(hk:aA1 X w w')(hx:ab7 X X' w):aA4 n0 w' X' ds:=by
 refine⟨h.1,h.2.1,λd hd=>?_⟩;obtain⟨D,h1,h2,h3,h4⟩:=h.2.2 d hd;have hlt:=lt_of_block h3;exact⟨D,h1,h2,(hk D hlt h4).trans h3,λhc=>h4 (hx D hlt hc)⟩
def TR(n0:Option Nat)(w:World)(X:Nat->Prop)(E:Env)(N:Nat)(τ:Tmps)(a:Act):Prop:=a.tmps.size=N/\aA4 n0 w X a.defers/\∀t<N,R w X E (ac5 τ t) (a.tmps.getD t undef)
theorem ag8{n0 w X E N τ a}(h:TR n0 w X E N τ a)(x:Operand):R w X E (evO N τ x) (a.eval x):=by
 cases x with
 |tmp t=>
  simp only[evO,Act.eval];split
  ·exact h.2.2 t ‹_›
  ·exact .any
 |const v=>exact ah8 v
 |global g=>exact .any
 |func f=>exact .fn rfl λi hi=>by omega
theorem al8{w X E sv v n g}(h:R w X E sv v)(hc:cellsOf sv=some (n,g)):
  v.cells.size=n/\∀i<n,ab1 (v.cells.getD i undef)/\R w X E (g i) (v.cells.getD i undef):=by
 have one:∀{sv v},R w X E sv v->v.cells = #[v]->ab1 v->some (1,λ(_:Nat)=>sv)=some (n,g)->v.cells.size=n/\∀i<n,ab1 (v.cells.getD i undef)/\R w X E (g i) (v.cells.getD i undef):=by
  intro sv v hr hv ho hc;simp only[sk,Prod.mk.injEq]at hc;obtain⟨rfl,rfl⟩:=hc;rw[hv];refine⟨rfl,λi hi=>?_⟩;obtain rfl:i=0:=by omega
  exact⟨ho,hr⟩
 cases h with
 |any=>simp[cellsOf]at hc
 |tup=>simp[cellsOf]at hc
 |agg hs ho hr=>
  simp only[cellsOf,sk,Prod.mk.injEq]at hc;obtain⟨rfl,rfl⟩:=hc;exact⟨hs,λi hi=>⟨ho i hi,hr i hi⟩⟩
 |int=>exact one .int rfl rfl hc
 |bool=>exact one .bool rfl rfl hc
 |lit=>exact one .lit rfl rfl hc
 |str=>exact one .str rfl rfl hc
 |nilfn=>exact one .nilfn rfl rfl hc
 |cap0=>exact one .cap0 rfl rfl hc
 |fn hs hr=>exact one (.fn hs hr) rfl rfl hc
 |fnb hs hr=>exact one (.fnb hs hr) rfl rfl hc
 |sl0=>exact one .sl0 rfl rfl hc
 |sl hb hX hc' hl ho hr=>exact one (.sl hb hX hc' hl ho hr) rfl rfl hc
 |ref hb hX hc' ho hr=>exact one (.ref hb hX hc' ho hr) rfl rfl hc
 |own he=>exact one (.own he) rfl rfl hc
 |osl he hv=>obtain⟨a,n',c,rfl⟩:=hv;exact one (.osl he ⟨_,_,_,rfl⟩) rfl rfl hc
 |oslOld he hl hv=>obtain⟨a,n',c,rfl⟩:=hv;exact one (.oslOld he hl ⟨_,_,_,rfl⟩) rfl rfl hc
 |ownAt he=>exact one (.ownAt he) rfl rfl hc
 |ownAtOld he hl hv=>obtain⟨a,o,rfl⟩:=hv;exact one (.ownAtOld he hl ⟨_,_,rfl⟩) rfl rfl hc
 |win he hl ha h0=>exact one (.win he hl ha h0) rfl rfl hc
 |nilsl=>exact one .nilsl rfl rfl hc
 |slN hr=>exact one (.slN hr) rfl rfl hc
 |winOld he hl hv=>obtain⟨a,c,rfl⟩:=hv;exact one (.winOld he hl ⟨_,_,rfl⟩) rfl rfl hc
 |con=>
  simp only[cellsOf]at hc;cases hv:v.oneCell' with
  |false=>simp only[hv,reduceCtorEq]at hc
  |true=>
   simp only[hv]at hc;refine one .con ?_ hv hc;cases v<;>first|rfl|simp[Value.oneCell']at hv
 |slP hb hX hc' hl ho hr=>exact one (.slP hb hX hc' hl ho hr) rfl rfl hc
 |refP hb hX hc' ho hr=>exact one (.refP hb hX hc' ho hr) rfl rfl hc
 |ifc ho hr=>exact one (.ifc ho hr) rfl rfl hc
 |pin he=>exact one (.pin he) rfl rfl hc
 |part he hl=>exact one (.part he hl) rfl rfl hc
 |partOld he hl hv=>obtain⟨a,n',c,rfl⟩:=hv;exact one (.partOld he hl ⟨_,_,_,rfl⟩) rfl rfl hc
 |omap he=>exact one (.omap he) rfl rfl hc
 |omapOld he hl=>exact one (.omapOld he hl) rfl rfl hc
theorem ad9(b o n:Nat):(⟨b,o,none⟩:Addr).add n=⟨b,o+n,none⟩:=Addr.add_lit b o n
theorem aH4{w:World}{b o:Nat}{c:Array Value}{T:TypeId}{fr:Nat×Nat}(h:w.heap[b]?=some (.cells c T fr))(ho:o<c.size):w.cell? ⟨b,o,none⟩=some (c.getD o undef):=by
 rw[cell_of_row w b o c T fr h];simp[Array.getD,ho]
theorem aI7{P:Program}{w:World}{X:Nat->Prop}{E:Env}{t:TypeId}{ti:Nat×Bool}(ht:tinf P t=some ti){b o n off:Nat}{c:Array Value}{T:TypeId}{fr:Nat×Nat}{g:Nat->SV}{s:SV}
  (hb:w.heap[b]?=some (.cells c T fr)) (hc:o+n<=c.size) (hl:ld ti n g off=some s)
  (h:∀j<n,ab1 (c.getD (o+j) undef)/\R w X E (g j) (c.getD (o+j) undef)):
  ∃v,(loadVar t ⟨b,o+off,none⟩).run P w=.ok v w/\R w X E s v:=by
 obtain⟨m,a⟩:=ti;obtain⟨ha,hsz⟩:=ak7 ht w;cases a with
 |true=>
  simp only[ld,xj]at hl;obtain⟨hle,rfl⟩:=aa0 hl;have as2:∀j<m,w.cell? ((⟨b,o+off,none⟩:Addr).add j)=some (c.getD (o+(off+j)) undef):=λj hj=>by
   rw[ad9,aH4 hb (by omega)];congr 2;omega
  refine⟨.agg ((List.range m).map λj=>c.getD (o+(off+j)) undef).toArray,?_,?_⟩
  ·simp[loadVar,ha,hsz,run_loadCells w _ m _ as2]
  ·have hg:∀i<m,((List.range m).map λj=>c.getD (o+(off+j)) undef).toArray.getD i undef=c.getD (o+(off+i)) undef:=λi hi=>by
    simp[Array.getD,hi]
   refine .agg (by simp) (λi hi=>?_) λi hi=>?_
   ·rw[hg i hi];exact(h _ (by omega)).1
   ·rw[hg i hi];exact(h _ (by omega)).2
 |false=>
  simp only[ld,lH,xn]at hl;obtain⟨hle,rfl⟩:=aa0 hl;refine⟨c.getD (o+off) undef,?_,(h _ hle).2⟩;simp[loadVar,ha,aH4 hb (show o+off<c.size by omega)]
theorem a48{cur:Array Value}{m k:Nat}(h:k<m):(cur.toList.take m).getD k undef=cur.getD k undef:=by
 rw[la,xR,ll h,lM,lc]
theorem ab5{cur:Array Value}{o m k:Nat}(h:k<m):((cur.toList.drop o).take m).getD k undef=cur.getD (o+k) undef:=by
 rw[la,xR,ll h,xx,lM,lc]
theorem ab8{i len n j:Nat}(hi:i<len)(hj:j<n):i*n+j<len*n:=by
 have:(i+1)*n<=len*n:=lk _ hi
 rw[lL]at this;omega
theorem ah4.elem{w T n v len xs b o len' cap}(h:ah4 w T n v len xs)(hv:v=.slice (some ⟨b,o,none⟩) len' cap){i:Nat}(hi:i<len):
  ∃cur,w.heap[b]?=some (.cells cur T (0,0))/\o+i*n+n<=cur.size/\∀j<n,cur.getD (o+i*n+j) undef=xs.getD (i*n+j) undef:=by
 rcases h with⟨a,rfl,rfl,rfl⟩|⟨b',oo,cap',cur,rfl,h1,h2,h3,h4,h5,h6⟩
 ·omega
 ·cases hv;have hle:(i+1)*n<=(cap'+1)*n:=lk _ (by omega);rw[lL]at hle;refine⟨cur,h1,by omega,λj hj=>?_⟩;subst h5;rw[ab5 (ab8 hi hj),xf]
theorem aY4{P:Program}{w0 X0 H E w}(h:Rep w0 X0 H E w){t:TypeId}{ti:Nat×Bool}(ht:tinf P t=some ti){x:SV}{v:Value}(hx:R w (Xo X0 E H) E x v){y:Yd}
  (hy:ad4 ti H x=some y) (hask:y.ask):∃ad u,v=.pointer (some ad)/\(loadVar t ad).run P w=.ok u w/\y.eff=.keep/\R w (Xo X0 E H) E y.val u:=by
 have fin:∀{b off:Nat}{s:SV},v=.pointer (some ⟨b,off,none⟩)->y.eff=.keep->y.val=s->(∃u,(loadVar t ⟨b,off,none⟩).run P w=.ok u w/\R w (Xo X0 E H) E s u)->
   ∃ad u,v=.pointer (some ad)/\(loadVar t ad).run P w=.ok u w/\y.eff=.keep/\R w (Xo X0 E H) E y.val u:=by
  intro b off s hv he hs ⟨u,hu,hr⟩;exact⟨_,u,hv,hu,he,by rw[hs];exact hr⟩
 cases hx with
 |own he=>
  rename_i k off b;have hok:=h.ok k _ he;simp only[ad4]at hy;generalize H.getD k .dead=so at hy hok;cases so<;>simp only[reduceCtorEq]at hy
  ·rename_i n g T;obtain⟨vs,h1,h2,h3⟩:=hok;simp only[sk]at hy;subst hy;have hl:=bO6 (g:=g) (Fit.le hask)
   ·refine fin rfl rfl rfl ?_;have:=aI7 (P:=P) ht (o:=0) h1 (by omega) hl (λj hj=>by rw[lI];exact h3 j hj)
    simpa using this
  ·rename_i n g;obtain⟨vs,T,fr,h1,hX,h2,h3⟩:=hok;simp only[sk]at hy;subst hy;have hl:=bO6 (g:=g) (Fit.le hask)
   ·refine fin rfl rfl rfl ?_;have:=aI7 (P:=P) ht (o:=0) h1 (by omega) hl (λj hj=>by rw[lI];exact⟨(h3 j hj).1,(h3 j hj).2.mono (λ_ _ _=>rfl) (ab7.refl _ _) (Env.bk1 E)⟩)
    simpa using this
 |refP hb hX hc ho hr=>
  rename_i g b o c T fr;simp only[ad4]at hy;cases hl:ld ti 1 (λ_=>g 0) 0 with
  |none=>simp[hl]at hy
  |some s=>
   simp only[hl,lD,sk]at hy;subst hy;refine fin rfl rfl rfl ?_;have:=aI7 (P:=P) (off:=0) (n:=1) (o:=o) ht hb (show o+1<=c.size by omega) hl (λj hj=>by
    have h0:j=0:=by omega
    rw[h0,lV];exact⟨ho,hr⟩)
   simpa using this
 |ref hb hX hc ho hr=>
  rename_i n g b o c T fr;simp only[ad4,sk]at hy;subst hy;have hl:=bO6 (g:=g) (Fit.le hask)
  ·refine fin rfl rfl rfl ?_;have:=aI7 (P:=P) (off:=0) ht hb hc hl (λj hj=>⟨ho j hj,(hr j hj).mono (λ_ _ _=>rfl) (ab7.refl _ _) (Env.bk1 E)⟩)
   simpa using this
 |ownAt he=>
  rename_i bo k ver i m off b len' cap us;have hok:=h.ok k _ he;simp only[ad4]at hy;generalize H.getD k .dead=so at hy hok;cases so<;>simp only[reduceCtorEq]at hy
  ·rename_i ver' len n g T;split at hy
   ·rename_i hc;obtain⟨rfl,rfl⟩:=hc;obtain⟨_,xs,h2,h3⟩:=hok;cases hy;obtain⟨hfit,hask⟩:=FitA.out hask;have hl:=bO6 (g:=g i) hfit;obtain⟨cur,c1,c2,c3⟩:=h2.elem rfl hask.out;refine fin rfl rfl rfl ?_;exact aI7 (P:=P) ht c1 c2 hl (λj hj=>by rw[c3 j hj];exact⟨(h3 i j hask.out hj).1,(h3 i j hask.out hj).2.mono (λ_ _ _=>rfl) (ab7.refl _ _) (Env.bk1 E)⟩)
   ·cases hy
  ·rename_i ver' len n g;split at hy
   ·rename_i hc;obtain⟨rfl,rfl⟩:=hc;obtain⟨_,h2⟩:=hok;cases hy;obtain⟨hfit,hask⟩:=FitA.out hask;have hl:=bO6 (g:=g i) hfit;have hask':i<len:=hask.out;have hle2:(i+1)*m<=len*m:=lk _ hask';rw[lL]at hle2;cases h2 with
    |sl0=>exact absurd hask' (ln _)
    |sl hb hX hc hl' ho hr=>
     refine fin rfl rfl rfl ?_;refine aI7 (P:=P) ht hb (by omega) hl (λj hj=>?_);have e1:=ho i j hask' hj;have e2:=(hr i j hask' hj).mono (λ_ _ _=>rfl) (ab7.refl _ _) (Env.bk1 E);exact⟨e1,e2⟩
   ·cases hy
  ·rename_i ver' len n c mm p g T T' ho;split at hy
   case isFalse=>cases hy
   rename_i hc;obtain⟨rfl,rfl⟩:=hc;obtain⟨_,xs,d⟩:=hok;cases off with
   |zero=>
    simp only at hy
    split at hy
    case h_2=>cases hy
    rename_i hh sv;cases hl:ld ti m (as2 sv (g i)) 0 with
    |none=>simp[hl]at hy
    |some s=>
     simp only[hl,lD,sk]at hy;subst hy;obtain⟨h1,rfl⟩:=hask.out;obtain⟨cur,c1,c2,c3⟩:=d.own.elem rfl h1;refine fin rfl rfl rfl ?_;refine aI7 (P:=P) (off:=0) ht c1 c2 hl (λj hj=>?_);rw[c3 j hj];cases j with
     |zero=>exact d.out hh sv h1 (by simp[hoAt])
     |succ j=>
      have:=d.rest hh (j+1) h1 (xF _) hj
      exact⟨this.1,this.2.mono (λ_ _ _=>rfl) (ab7.refl _ _) (Env.bk1 E)⟩
   |succ o=>
    simp only at hy
    cases hl:ld ti (m-1) (λj=>g i (j+1)) o with
    |none=>simp[hl]at hy
    |some s=>
     simp only[hl,lD,sk]at hy;subst hy;have h1:i<len:=hask.out;obtain⟨cur,c1,c2,c3⟩:=d.own.elem rfl h1;have hm:=d.pos;refine fin rfl rfl rfl ?_;rw[show bo+i*m+(o+1)=(bo+i*m+1)+o by omega];refine aI7 (P:=P) (off:=o) (n:=m-1) ht c1 (by omega) hl (λj hj=>?_);rw[show bo+i*m+1+j=bo+i*m+(j+1)by omega,c3 (j+1) (by omega)];have:=d.rest i (j+1) h1 (xF _) (by omega)
     exact⟨this.1,this.2.mono (λ_ _ _=>rfl) (ab7.refl _ _) (Env.bk1 E)⟩
 |ownAtOld he hl hv=>
  rename_i k ver ver' v' i m off us;have hok:=h.ok k _ he;simp only[ad4]at hy;generalize H.getD k .dead=so at hy hok;cases so<;>simp only[reduceCtorEq]at hy
  ·split at hy
   ·rename_i hc;have:=hok.1
    omega
   ·cases hy
  ·split at hy
   ·rename_i hc;have:=hok.1
    omega
   ·cases hy
  ·split at hy
   ·rename_i hc;have:=hok.1
    omega
   ·cases hy
 |_=>simp[ad4]at hy
theorem bh6{P:Program}{w0 X0 H E w nm}(h:Rep w0 X0 H E w){t:TypeId}{ti:Nat×Bool}(ht:tinf P t=some ti){x:SV}{v:Value}(hx:R w (Xo X0 E H) E x v){y:Yd}
  (hy:ad4 ti H x=some y) (hask:y.ask):∃u w',(Instr.loadAt t v).run P w=.ok u w'/\Goes w0 X0 H E w nm y.eff y.val u w':=by
 obtain⟨ad,u,rfl,h1,h2,h3⟩:=aY4 (P:=P) h ht hx hy hask;refine⟨u,w,by simp[Instr.loadAt,Instr.sureAddr,h1],?_⟩;rw[h2];exact Goes.pure h h3
open Go.RowKit
theorem ai1(cur:Array Value)(ws:List Value)(o j:Nat)(h:o+ws.length<=cur.size):
  (cur.toList.take o++ws++cur.toList.drop (o+ws.length)).toArray.getD j undef=if o<=j/\j<o+ws.length then ws.getD (j-o) undef else cur.getD j undef:=by
 rw[lc,xI];have hl:(cur.toList.take o).length=o:=by rw[xu,lC];omega
 by_cases h1:j<o
 ·rw[lu (by omega),xK,xh (by omega),xR,ll h1,lM,lc]
 ·by_cases h2:j<o+ws.length
  ·rw[ll (by omega),xK,lR (by omega),hl,xh (by omega),la]
  ·rw[lu (by omega),lR (by rw[lx,hl];omega),xx,lx,hl,lM,
    show o+ws.length+(j-(o+ws.length))=j by omega,lc]
theorem ag5(cur:Array Value)(ws:List Value)(o:Nat)(h:o+ws.length<=cur.size):(cur.toList.take o++ws++cur.toList.drop (o+ws.length)).toArray.size=cur.size:=by
 simp only[xw,lx,xu,xH,lC];omega
theorem ab9(c:Array Value)(j:Nat):c.toList.getD j undef=c.getD j undef:=by
 rw[la,lM,lc]
theorem az3{c:Array Value}(h:∀i<c.size,ab1 (c.getD i undef)):∀v∈c.toList,v.oneCell'=true:=by
 intro v hv;obtain⟨i,hi,rfl⟩:=uL.1 hv;have:=h i (by simpa using hi)
 rw[lC]at hi;simpa[ab1,Array.getD,hi]using this
theorem Goes.set{w0 X0 H E w w' nm k e e' so' sv v}(h:Rep w0 X0 H E w)(hk:E k=some e)(le:E.le (E.put k e'))
  (hb:∀b<w.heap.size,¬ holds e (H.getD k .dead) b->w'.heap[b]?=w.heap[b]?)
  (hos:w'.os=w.os) (htape:w'.tape=w.tape) (hout:w'.output=w.output) (hsz:w.heap.size<=w'.heap.size)
  (hh:∀b,holds e' so' b->holds e (H.getD k .dead) b\/(w.heap.size<=b))
  (hok:aA1 (Xo X0 E H) w w'->ab7 (Xo X0 E H) (Xo X0 (E.put k e') (H.set k so')) w->EIok w' (Xo X0 (E.put k e') (H.set k so')) (E.put k e') e' so')
  (hr:∀X,R w' X (E.put k e') sv v):Goes w0 X0 H E w nm (.sets [(k,so')]) sv v w':=by
 obtain⟨h1,h2,h3⟩:=h.upd hk le hb hos htape hout hsz hh λa b _=>hok a b
 refine⟨E.put k e',le,h2,h3,h1,hr _,λj hj=> .inl ?_⟩;by_cases hjk:j=k
 ·subst hjk;rw[hk];simp
 ·rwa[Env.ac6 hjk]at hj
theorem aZ7{g f:Nat->SV}{off m j:Nat}(h:off<=j/\j<off+m):updF g off m f j=f (j-off):=by unfold updF;rw[ae4,lg h];rfl
theorem aZ6{g f:Nat->SV}{off m j:Nat}(h:¬ (off<=j/\j<off+m)):updF g off m f j=g j:=by unfold updF;rw[ae4,lf h];rfl
theorem b94{g:Nat->Nat->SV}{f:Nat->SV}{i off m j:Nat}(h:off<=j/\j<off+m):updR g i off m f i j=f (j-off):=by unfold updR;rw[ae4,lg ⟨rfl,h⟩];rfl
theorem br1{g:Nat->Nat->SV}{f:Nat->SV}{i i' off m j:Nat}(h:¬ (i'=i/\off<=j/\j<off+m)):updR g i off m f i' j=g i' j:=by unfold updR;rw[ae4,lf h];rfl
theorem a71{P:Program}{w0 X0 H E w nm}(h:Rep w0 X0 H E w){t:TypeId}{ti:Nat×Bool}(ht:tinf P t=some ti){x z:SV}{v u:Value}
  (hx:R w (Xo X0 E H) E x v) (hz:R w (Xo X0 E H) E z u) {y:Yd}(hy:ao5 ti H x z=some y) (hask:y.ask):
  ∃w',(Instr.storeAt t v u).run P w=.ok () w'/\Goes w0 X0 H E w nm y.eff .any undef w':=by
 unfold ao5 at hy;cases hc:cellsOf z with
 |none=>simp[hc]at hy
 |some mf=>
  obtain⟨m,f⟩:=mf;obtain⟨hcs,hcr⟩:=al8 hz hc;simp only[hc]at hy;split at hy
  case isFalse=>cases hy
  rename_i hm;subst hm;have hsz:=(ak7 ht w).2;have hlen:u.cells.toList.length=ti.1:=by rw[lC,hcs]
  cases hx with
  |own he=>
   rename_i k off b;have hok:=h.ok k _ he;simp only at hy
   generalize hs:H.getD k .dead=so at hy hok;cases so<;>simp only[reduceCtorEq]at hy
   rename_i n g T;have hstore:∃g',y=⟨Fit (off+ti.1) n,.any,.sets [(k,.cells n g' T)]⟩/\∀j,off+ti.1<=n->j<n->g' j=updF g off ti.1 f j:=by
    cases hb:Nat.beq ti.1 n with
    |true=>
     rw[hb]at hy;cases hy;have hmn:ti.1=n:=lK hb;refine⟨f,rfl,λj h1 hj=>?_⟩;obtain rfl:off=0:=by omega
     rw[aZ7 (by omega)];rfl
    |false=>rw[hb]at hy;cases hy;exact⟨_,rfl,λ_ _ _=>rfl⟩
   obtain⟨g',rfl,hgg⟩:=hstore;have hle:=Fit.le hask;obtain⟨vs,h1,h2,h3⟩:=hok;have hfit:off+u.cells.toList.length<=vs.size:=by omega
   have hrun:=run_storeCells_at P b off T u.cells.toList 0 vs w h1 (by omega) (az3 λi hi=>(hcr i (by omega)).1);simp only[lV]at hrun;refine⟨_,by simp only[Instr.storeAt,Instr.sureAddr,storeVar,Sem.run_bind,Sem.run_pure,rk,hsz,hcs,ne_eq,lag,xn];exact hrun,?_⟩;generalize hnew:(u.cells.toList.take 0:List Value)=dummy;clear hnew dummy;have hput:E.put k (.blk b)=E:=Env.af6 he;refine Goes.set (e':= .blk b) h he (by rw[hput];exact Env.le_refl _) (λb' hb' hne=>setRow_other w b b' _ (λhc=>hne (by rw[hs,hc];rfl))) rfl rfl rfl (by simp[World.setRow])
    (λb' hb'=> .inl (by rw[hs];exact hb')) (λhke hwi=>?_) (λX=> .any)
   rw[hput]at hwi⊢;refine⟨_,setRow_heap w b vs _ T _ h1,by rw[ag5 _ _ _ hfit];exact h2,λj hj=>?_⟩;have key:=ai1 vs u.cells.toList off j hfit;rw[hgg j hle hj];by_cases hjj:off<=j/\j<off+ti.1
   ·rw[aZ7 hjj,key,ll (by omega),ab9];exact⟨(hcr (j-off) (by omega)).1,(hcr (j-off) (by omega)).2.mono hke hwi (Env.le_refl _)⟩
   ·rw[aZ6 hjj,key,lu (by omega)];exact⟨(h3 j hj).1,(h3 j hj).2.mono hke hwi (Env.le_refl _)⟩
  |ownAt he=>
   rename_i bo k ver i m' off b len' cap us;have hok:=h.ok k _ he;simp only at hy
   generalize hs:H.getD k .dead=so at hy hok;cases so<;>simp only[reduceCtorEq]at hy
   case deep ver' len n c mm p g T T' ho=>
    cases ho with
    |none=>simp only[reduceCtorEq]at hy
    |some q=>
     obtain⟨qh,qs⟩:=q;simp only at hy
     split at hy
     case isFalse=>cases hy
     rename_i hcond;cases hy;obtain⟨rfl,rfl,rfl,h1c⟩:=hcond;obtain⟨_,xs,d⟩:=hok;obtain⟨hil,hqi⟩:i<len/\qh=i:=hask.out;have own:=d.own;rcases own with⟨a,hv,rfl,rfl⟩|⟨b',oo,cap',cur,hv,c1,c2,c3,c4,c5,c6⟩
     ·omega
     cases hv;have hpos:=d.pos;have hil2:(i+1)*m'<=len'*m':=lk _ hil;have hll:len'*m'<=(cap'+1)*m':=lk _ c2;rw[lL]at hil2;have hfit:bo+i*m'+0+u.cells.toList.length<=cur.size:=by omega
     have hrun:=run_storeCells_at P b (bo+i*m'+0) T u.cells.toList 0 cur w c1 (by omega) (az3 λi hi=>(hcr i (by omega)).1);simp only[lV]at hrun;refine⟨_,by simp only[Instr.storeAt,Instr.sureAddr,storeVar,Sem.run_bind,Sem.run_pure,rk,hsz,hcs,ne_eq,lag,xn,lV];exact hrun,?_⟩;have hput:E.put k (.slc ver (.slice (some ⟨b,bo,none⟩) len' (cap'+1)) us)=E:=Env.af6 he;have hno:∀i',hoAt (some (qh,f 0)) i'=none->hoAt (some (qh,qs)) i'=none:=λi' hh=>by
      unfold hoAt at hh⊢;simp only at hh⊢
      split at hh
      ·cases hh
      ·rename_i hne;rw[lu hne]
     have hni:∀i',hoAt (some (qh,f 0)) i'=none->i'≠i:=λi' hh hc=>by
      unfold hoAt at hh;simp only at hh
      rw[ll (by omega)]at hh;cases hh
     refine Goes.set (e':= .slc ver (.slice (some ⟨b,bo,none⟩) len' (cap'+1)) us) h he (by rw[hput];exact Env.le_refl _) (λb' hb' hne=>setRow_other w b b' _ (λhc=>hne (by rw[hs,hc];exact .inl rfl))) rfl rfl rfl (by simp[World.setRow])
      (λb' hb'=> .inl (by rw[hs];exact hb'.imp id λ⟨i',q1,q2,q3⟩=>⟨i',q1,hno i' q2,q3⟩)) (λhke hwi=>?_) (λX=> .any)
     rw[hput]at hwi⊢;have hfit':bo+i*m'+u.cells.toList.length<=cur.size:=by omega
     have hne:∀i' j,i'<len'->j<m'->(i'≠i\/0<j)->¬ (bo+i*m'<=bo+(i'*m'+j)/\bo+(i'*m'+j)<bo+i*m'+u.cells.toList.length):=λi' j hi' hj hd=>by
      rcases xL i' i with hlt'|heq|hgt
      ·have:=ab8 (n:=m') (len:=i) hlt' hj
       omega
      ·subst heq;omega
      ·have:(i+1)*m'<=i'*m':=lk _ hgt
       rw[lL]at this;omega
     have hold:∀i' j,i'<len'->j<m'->cur.getD (bo+(i'*m'+j)) undef=xs.getD (i'*m'+j) undef:=λi' j hi' hj=>by
      rw[<-c5,ab5 (ab8 hi' hj)]
     have get:∀i' j,i'<len'->j<m'->(i'≠i\/0<j)->(((cur.toList.take (bo+i*m')++u.cells.toList++cur.toList.drop (bo+i*m'+u.cells.toList.length)).toArray.toList.drop bo).take (len'*m')).getD (i'*m'+j) undef=xs.getD (i'*m'+j) undef:=λi' j hi' hj hd=>by
      rw[ab5 (ab8 hi' hj),ai1 cur u.cells.toList (bo+i*m') (bo+(i'*m'+j)) hfit',lu (hne i' j hi' hj hd)];exact hold i' j hi' hj
     refine⟨rfl,_,hpos,.inr ⟨b,bo,cap',_,rfl,setRow_heap w b cur _ T _ c1,c2,c3,by rw[ag5 _ _ _ hfit'];exact c4,rfl,by simp only[xu,lx,xH,lC];omega⟩,λi' j hi' h0 hj=>?_,λi' sv hi' hh=>?_,λi' hi' hh=>?_,λi' b2 hi' hh=>d.apart i' b2 hi' (hno i' hh),λi1 i2 b2 h1 h2 hh1 hh2=>d.inj i1 i2 b2 h1 h2 (hno i1 hh1) (hno i2 hh2)⟩
     ·rw[get i' j hi' hj (.inr h0)];exact⟨(d.rest i' j hi' h0 hj).1,(d.rest i' j hi' h0 hj).2.mono hke hwi (Env.le_refl _)⟩
     ·unfold hoAt at hh;simp only at hh
      split at hh
      case isFalse=>cases hh
      rename_i hqi';cases hh;obtain rfl:i'=i:=by omega
      have key:=ai1 cur u.cells.toList (bo+i'*m') (bo+i'*m') hfit';have hlt:=ab8 (n:=m') (j:=0) hi' hpos;rw[lV]at hlt;rw[ab5 hlt,key,ll (by omega),ab9,uE];exact⟨(hcr 0 (by omega)).1,(hcr 0 (by omega)).2.mono hke hwi (Env.le_refl _)⟩
     ·have hd:=hni i' hh;obtain⟨g1,ys,g2,g3⟩:=d.inn i' hi' (hno i' hh);have e:=get i' 0 hi' hpos (.inl hd);rw[lV]at e;rw[e];refine⟨g1,ys,g2.mono λb2 ⟨a,m2,c',q1,q2⟩=>?_,λx j hx hj=>⟨(g3 x j hx hj).1,(g3 x j hx hj).2.mono hke hwi (Env.le_refl _)⟩⟩;rw[q1]at g1;subst q2;have hap:=d.apart i' a.block hi' (hno i' hh) g1.symm;exact setRow_other w b _ _ (λhc=>hap (by rw[<-hc];rfl))
   rename_i ver' len n g T;split at hy
   case isFalse=>cases hy
   rename_i hcond;cases hy;obtain⟨⟨rfl,rfl⟩,hpur⟩:=hcond;obtain⟨_,xs,h2,h3⟩:=hok;obtain⟨hle,hask⟩:=FitA.out hask;have hask':i<len:=hask.out;rcases h2 with⟨a,hv,rfl,rfl⟩|⟨b',oo,cap',cur,hv,c1,c2,c3,c4,c5,c6⟩
   ·omega
   cases hv;have hil:(i+1)*m'<=len'*m':=lk _ hask';have hll:len'*m'<=(cap'+1)*m':=lk _ c2;rw[lL]at hil;have hfit:bo+i*m'+off+u.cells.toList.length<=cur.size:=by omega
   have hrun:=run_storeCells_at P b (bo+i*m'+off) T u.cells.toList 0 cur w c1 (by omega) (az3 λi hi=>(hcr i (by omega)).1);simp only[lV]at hrun;refine⟨_,by simp only[Instr.storeAt,Instr.sureAddr,storeVar,Sem.run_bind,Sem.run_pure,rk,hsz,hcs,ne_eq,lag,xn];exact hrun,?_⟩;have hput:E.put k (.slc ver (.slice (some ⟨b,bo,none⟩) len' (cap'+1)) us)=E:=Env.af6 he;refine Goes.set (e':= .slc ver (.slice (some ⟨b,bo,none⟩) len' (cap'+1)) us) h he (by rw[hput];exact Env.le_refl _) (λb' hb' hne=>setRow_other w b b' _ (λhc=>hne (by rw[hs,hc];rfl))) rfl rfl rfl (by simp[World.setRow])
    (λb' hb'=> .inl (by rw[hs];exact hb')) (λhke hwi=>?_) (λX=> .any)
   rw[hput]at hwi⊢;refine⟨rfl,_,.inr ⟨b,bo,cap',_,rfl,setRow_heap w b cur _ T _ c1,c2,c3,by rw[ag5 _ _ _ hfit];exact c4,rfl,by simp only[xu,lx,xH,lC];omega⟩,λi' j hi' hj=>?_⟩;have hlt:=ab8 (n:=m') hi' hj;have key:=ai1 cur u.cells.toList (bo+i*m'+off) (bo+(i'*m'+j)) hfit;rw[ab5 hlt];have hold:cur.getD (bo+(i'*m'+j)) undef=xs.getD (i'*m'+j) undef:=by subst c5;rw[ab5 hlt]
   by_cases hii:i'=i
   ·subst hii;by_cases hjj:off<=j/\j<off+ti.1
    ·rw[b94 hjj,key,ll (by omega),ab9,show bo+(i'*m'+j)-(bo+i'*m'+off)=j-off by omega];exact⟨(hcr (j-off) (by omega)).1,(ae6 6 _ _ (ad1 hpur (by omega)) (hcr (j-off) (by omega)).2).mono hke hwi (Env.le_refl _)⟩
    ·rw[br1 (λhc=>hjj hc.2),key,lu (by omega),hold];exact⟨(h3 i' j hi' hj).1,(h3 i' j hi' hj).2.mono hke hwi (Env.le_refl _)⟩
   ·have hne:¬ (bo+i*m'+off<=bo+(i'*m'+j)/\bo+(i'*m'+j)<bo+i*m'+off+ti.1):=by
     rcases ut hii with hlt'|hgt
     ·have:=ab8 (n:=m') (len:=i) hlt' hj
      omega
     ·have:(i+1)*m'<=i'*m':=lk _ hgt
      rw[lL]at this;omega
    rw[br1 (λhc=>hii hc.1),key,lu (by omega),hold];exact⟨(h3 i' j hi' hj).1,(h3 i' j hi' hj).2.mono hke hwi (Env.le_refl _)⟩
  |ownAtOld he hl hv=>
   rename_i k ver ver' v' i m off us;have hok:=h.ok k _ he;simp only at hy
   generalize H.getD k .dead=so at hy hok;cases so<;>simp only[reduceCtorEq]at hy
   case deep=>
    split at hy
    case h_2=>cases hy
    split at hy
    ·rename_i hc;have:=hok.1
     omega
    ·cases hy
   split at hy
   ·rename_i hc;have:=hok.1
    omega
   ·cases hy
  |_=>simp at hy
end Sx
end Go.Proofs.YtnhecfkpiojmhaaGreat
