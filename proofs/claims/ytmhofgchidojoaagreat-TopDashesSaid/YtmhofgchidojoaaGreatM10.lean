/- Part 10 of the texts that the law's proof leans on. -/
import Derived.Test.YtmhofgchidojoaaGreatM9
set_option linter.unusedSimpArgs false
set_option linter.unusedVariables false
namespace Go.Proofs.YtmhofgchidojoaaGreat.Dsj
open Go.RowKit Sx Num Aff Con Dsh Dsi
set_option maxRecDepth 100000
theorem li_fin {l:Li}(h:l.ok):l.fin:=⟨by have:=h.1; omega,fun i hi=>small_up (h.2 i hi)⟩
theorem lns1 {l:Li}(h:l.ok):Lns.fin ⟨1,fun _=>l⟩:=⟨by show 1<=_; omega,fun _ _=>li_fin h⟩
structure DaG where
 l:Li
 n:Nat
 p:Nat->Int
 ph:Int
def inD:SV->Nat->Int
 | .sl _ _ f=>fun i=>Sx.intOf (f i 0)
 | _=>fun _=>0
def patS (g:DaG):SV:= .sl g.n 1 (fun i=>lst [.int .i64 (g.p i)])
def DaG.ok (g:DaG):Prop:=(g.l.ok/\1<=g.n/\g.n<=16)/\(∀ i,i<g.n->2<=g.p i/\g.p i<=1000)/\0<=g.ph/\g.ph<=1048576
def DaG.sum (g:DaG):Nat->Int
 | 0=>0
 | i+1=>g.sum i+g.p i
def DaG.turn (g:DaG):Int:=if g.n % 2=1 then g.sum g.n*2 else g.sum g.n
def DaG.E (g:DaG):Int:=Li.o g.l g.l.m
def DaG.at (g:DaG):Nat->Int
 | 0=> -(g.ph % g.turn)
 | i+1=>g.at i+g.p (i % g.n)
def DaG.a (g:DaG) (i:Nat):Int:=if 0>g.at i then 0 else g.at i
def DaG.b (g:DaG) (i:Nat):Int:=if g.E<g.at (i+1) then g.E else g.at (i+1)
def DaG.T (g:DaG) (i:Nat):List Pt:=TkG.L ⟨g.l.m,g.l.sd,g.a i,g.b i⟩
def DaG.on (g:DaG) (i:Nat):Prop:=i % 2=0/\g.a i<g.b i
instance (g:DaG) (i:Nat):Decidable (g.on i):=inferInstanceAs (Decidable (_/\_))
def DaG.out (g:DaG):Nat->List (List Pt)
 | 0=>[]
 | i+1=>if g.on i then g.out i++[g.T i] else g.out i
def DaG.N (g:DaG):Nat:=(g.E+g.turn).toNat+1
def dI (D:List (List Pt)) (j:Nat):List Pt:=D.getD j []
def dsS (D:List (List Pt)):SV:= .sl D.length 2 (fun j=>lst [ptsS (dI D j),.lit false])
def daSum (g:DaG):Inv:=⟨Nat,fun i=>i<=g.n,fun i=>⟨[(1,patS g),(2,.int .i64 g.ph),(3,.own 0 0),(9,.int .i64 (g.sum i)),(35,patS g),(36,.int .i64 g.n),(37,.int .i64 i)],[.cells 2 (lst (liL g.l)) 31]⟩,fun i=>g.n-i⟩
def daCut (g:DaG):Inv:=⟨Unit,fun _=>True,fun _=>⟨[(1,patS g),(2,.int .i64 g.ph),(3,.own 0 0),(9,.int .i64 g.turn)],[.cells 2 (lst (liL g.l)) 31]⟩,fun _=>0⟩
def DaG.inv (g:DaG) (h:Nat×Nat):Prop:=h.2<=g.l.m/\(∀ j,j<h.2->(g.l.sd j).size=0\/(g.l.sd j).o+(g.l.sd j).size<g.a h.1)/\(0<h.1->g.at (h.1-1)<g.E)
def daInv (g:DaG):Inv:=⟨Nat×Nat,g.inv,fun h=>⟨[(1,patS g),(13,.int .i64 g.E),(3,.own 0 0),(14,.own 1 0),(15,.osl 2 0),(16,.int .i64 (g.at h.1)),(17,.int .i64 h.1)],
  [.cells 2 (lst (liL g.l)) 31,.cells 1 (lst [sdsS (g.l.m-h.2) (fun j=>g.l.sd (j+h.2))]) 47,.row 0 (g.out h.1).length 2 (fun j=>lst [ptsS (dI (g.out h.1) j),.lit false]) 31]⟩,fun h=>g.N-h.1⟩
theorem DaG.sum_ok {g:DaG}(h:g.ok):∀ i,i<=g.n->2*(i:Int)<=g.sum i/\g.sum i<=1000*(i:Int)
 | 0,_=>⟨Int.le_refl _,Int.le_refl _⟩
 | i+1,hi=>by
  have ih:=DaG.sum_ok h i (by omega)
  have:=h.2.1 i (by omega)
  show _<=g.sum i+g.p i/\g.sum i+g.p i<=_
  omega
theorem DaG.turn_ok {g:DaG}(h:g.ok):2<=g.turn/\g.turn<=32000:=by
 have h1:=g.sum_ok h g.n (Nat.le_refl _)
 have h2:=h.1.2
 unfold DaG.turn
 split<;>omega
theorem Li.m_le (l:Li):l.m<=l.n:=by unfold Li.m; split<;>(try split)<;>omega
theorem DaG.E_ok {g:DaG}(h:g.ok):0<=g.E/\g.E<=12726:=by
 have h1:=Li.o_ok h.1.1 g.l.m (Li.m_le _)
 have h2:=Li.m_le g.l
 have h3:=h.1.1.1
 unfold DaG.E
 omega
theorem DaG.at_up {g:DaG}(h:g.ok) (i:Nat):g.at i+2<=g.at (i+1)/\g.at (i+1)<=g.at i+1000:=by
 have:=h.2.1 (i % g.n) (Nat.mod_lt _ h.1.2.1)
 show _<=g.at i+g.p (i % g.n)/\g.at i+g.p (i % g.n)<=_
 omega
theorem DaG.at_0 {g:DaG}(h:g.ok) : -g.turn<g.at 0/\g.at 0<=0:=by
 have h1:=g.turn_ok h
 have h2:=Int.emod_nonneg g.ph (show g.turn≠0 by omega)
 have h3:=Int.emod_lt_of_pos g.ph (show 0<g.turn by omega)
 show _ < -(g.ph % g.turn)/\ -(g.ph % g.turn)<=0
 omega
theorem DaG.at_lo {g:DaG}(h:g.ok):∀ i:Nat,-g.turn+2*(i:Int)<g.at i
 | 0=>by have:=g.at_0 h; omega
 | i+1=>by have:=DaG.at_lo h i; have:=g.at_up h i; omega
theorem DaG.lt_N {g:DaG}(h:g.ok) {i:Nat}(hi:g.at i<g.E):i+1<=g.N:=by
 have:=g.at_lo h i
 unfold DaG.N
 omega
theorem DaG.stop {g:DaG}(h:g.ok) {i:Nat}(hi:g.E<=g.at i):∀ d,g.out (i+d)=g.out i/\g.E<=g.at (i+d)
 | 0=>⟨rfl,hi⟩
 | d+1=>by
  have ih:=DaG.stop h hi d
  have hu:=g.at_up h (i+d)
  refine ⟨?_,by show g.E<=g.at (i+d+1); omega⟩
  show (if g.on (i+d) then _ else g.out (i+d))=_
  rw [if_neg ?_,ih.1]
  rintro ⟨_,hc⟩
  unfold DaG.a DaG.b at hc
  have:=(g.E_ok h).1
  split at hc<;>split at hc<;>omega
theorem DaG.stopN {g:DaG}(h:g.ok) {i:Nat}(hi:g.E<=g.at i) (hN:i<=g.N):g.out g.N=g.out i:=by
 have:=(g.stop h hi (g.N-i)).1
 rwa [show i+(g.N-i)=g.N by omega] at this
theorem DaG.len_ok {g:DaG}(h:g.ok):∀ i,2*((g.out i).length:Int)<=max (g.at i) 0+2/\((g.out i).length≠0->0<g.at i)
 | 0=>⟨by show (0:Int)<=_; omega,fun h=>absurd rfl h⟩
 | i+1=>by
  have ih:=DaG.len_ok h i
  have hu:=g.at_up h i
  show 2*((if g.on i then g.out i++[g.T i] else g.out i).length:Int)<=_/\((if g.on i then g.out i++[g.T i] else g.out i).length≠0->_)
  split
  ·rename_i hon
   have hb:=hon.2
   unfold DaG.a DaG.b at hb
   rw [List.length_append,List.length_singleton]
   by_cases h0:(g.out i).length=0
   ·rw [h0]
    split at hb<;>split at hb<;>omega
   ·have:=ih.2 h0
    omega
  ·refine ⟨by omega,fun h0=>?_⟩
   have:=ih.2 h0
   omega
theorem DaG.a_up {g:DaG}(h:g.ok) (i:Nat):g.a i<=g.a (i+1)/\0<=g.a i:=by
 have:=g.at_up h i
 unfold DaG.a
 split<;>split<;>omega
theorem ex_side (l:Li) {a:Int}(h0:0<=a):∀ m,(∀ j,j<m->0<=lenPt (l.f j) (l.to j))->a<Li.o l m->∃ j,j<m/\0<(l.sd j).size/\a<(l.sd j).o+(l.sd j).size
 | 0,_,h=>absurd h (by show ¬ a<0; omega)
 | m+1,hs,h=>by
  have h:a<Li.o l m+lenPt (l.f m) (l.to m):=h
  by_cases hz:lenPt (l.f m) (l.to m)=0
  ·obtain ⟨j,h1,h2⟩:=ex_side l h0 m (fun j hj=>hs j (by omega)) (by omega)
   exact ⟨j,by omega,h2⟩
  ·have:=hs m (by omega)
   exact ⟨m,by omega,by show 0<lenPt (l.f m) (l.to m); omega,h⟩
theorem Li.len0 {l:Li}(h:l.ok) {j:Nat}(hj:j<l.m):0<=lenPt (l.f j) (l.to j)/\lenPt (l.f j) (l.to j)<=1414:=
 len_small (h.2 j (Nat.lt_of_lt_of_le hj (Li.m_le l))) (Li.to_ok h (Nat.lt_of_lt_of_le hj (Li.m_le l)))
theorem li_sides {l:Li}(h:l.ok) (k:Nat):sides_in (l.m-k) (fun j=>l.sd (j+k)):=by
 have hm:=Li.m_le l
 have hn:=h.1
 refine ⟨by omega,fun j hj=>?_⟩
 have hj:j+k<l.n:=by omega
 have h1:=Li.o_ok h (j+k) (by omega)
 have h2:=Li.len0 h (j:=j+k) (by omega)
 refine ⟨⟨small_up (h.2 _ hj),small_up (Li.to_ok h hj)⟩,⟨h1.1,?_⟩,h2.1,?_⟩
 ·show Li.o l (j+k)<=_; omega
 ·show lenPt _ _<=_; omega
theorem sk_shift {a:Int}{m:Nat}{s:Nat->Sd}:∀ k,k<=m->(∀ j,j<k->(s j).size=0\/(s j).o+(s j).size<a)->sk s a m=sk (fun j=>s (j+k)) a (m-k)+k
 | 0,_,_=>rfl
 | k+1,hk,h=>by
  rw [sk_shift k (by omega) (fun j hj=>h j (by omega)),show m-k=(m-(k+1))+1 by omega]
  show (if (s (0+k)).size=0\/(s (0+k)).o+(s (0+k)).size<a then sk (fun j=>s (j+1+k)) a (m-(k+1))+1 else 0)+k=_
  rw [Nat.zero_add,if_pos (h k (by omega)),show (fun j=>s (j+1+k))=fun j=>s (j+(k+1)) from funext fun j=>congrArg s (by omega)]
  omega
theorem L_shift {a b:Int}{m:Nat}{s:Nat->Sd}{k:Nat}(hk:k<=m) (h:∀ j,j<k->(s j).size=0\/(s j).o+(s j).size<a):TkG.L ⟨m-k,fun j=>s (j+k),a,b⟩=TkG.L ⟨m,s,a,b⟩:=by
 unfold TkG.L TkG.k
 show tk (fun j=>s (j+sk (fun j=>s (j+k)) a (m-k)+k)) a b (m-k-sk (fun j=>s (j+k)) a (m-k)) [ptAt (s (sk (fun j=>s (j+k)) a (m-k)+k)) a]=tk (fun j=>s (j+sk s a m)) a b (m-sk s a m) [ptAt (s (sk s a m)) a]
 rw [sk_shift k hk h,show (fun j=>s (j+sk (fun j=>s (j+k)) a (m-k)+k))=fun j=>s (j+(sk (fun j=>s (j+k)) a (m-k)+k)) from funext fun j=>congrArg s (by omega),show m-(sk (fun j=>s (j+k)) a (m-k)+k)=m-k-sk (fun j=>s (j+k)) a (m-k) by omega]
theorem dI_app (D:List (List Pt)) (x:List Pt) (j:Nat) (h:j<(D++[x]).length):(bif decide (j<D.length) then (dI D j).length else x.length)=(dI (D++[x]) j).length/\
  ∀ r,r<(dI (D++[x]) j).length->(bif decide (j<D.length) then (ptI (dI D j) r).x else (ptI x r).x)=(ptI (dI (D++[x]) j) r).x/\(bif decide (j<D.length) then (ptI (dI D j) r).y else (ptI x r).y)=(ptI (dI (D++[x]) j) r).y:=by
 by_cases hi:j<D.length
 ·have e:dI (D++[x]) j=dI D j:=by unfold dI; simp only [List.getD_eq_getElem?_getD,List.getElem?_append_left hi]
  rw [decide_eq_true hi,e]
  exact ⟨rfl,fun _ _=>⟨rfl,rfl⟩⟩
 ·have e0:j=D.length:=by simp at h; omega
  have e:dI (D++[x]) j=x:=by unfold dI; subst e0; simp
  rw [decide_eq_false hi,e]
  exact ⟨rfl,fun _ _=>⟨rfl,rfl⟩⟩
def spDash:FSpec:=mkSpec 4 (γ:=DaG) (fun | [.agg _ l,p,.int _ x]=>some ⟨liD l,slLen p,inD p,x⟩ | _=>none) (fun g=>[liS g.l,patS g,.int .i64 g.ph]) DaG.ok (fun g=> .tup 2 (lst [dsS (g.out g.N),.int .i64 0]))
theorem ok_dash:SpecOK Tryz.prog spDash:=by
 refine spec_sound (specs:=[giv spCheckFi,spSides,spTake]) (all_ok (⟨giv_ok ok_checkFi,ok_sides,ok_take,trivial⟩)) (eqs:=[]) (fun _ _ h=>(List.not_mem_nil h).elim) Aff.mixed Tryz.func4 rfl (by kernel_rfl) (fun _ _=>by kernel_rfl) (fun g=>(⟨[(8,.inv (daSum g)),(18,.cut (daCut g)),(23,.inv (daInv g))],[(22,[.own 15 31 2])]⟩:Ann)) (fun g=>Nat.le_of_ble_eq_true (by kernel_rfl)) ?_
 rintro g hg
 refine vc_of (B:=let J:=IntKind.i64;let K:=Sx.Br;let A:=Sx.Ask;True/\True/\True/\True/\True/\(((A ((1:Nat)=(1:Nat))/\∀ i:Nat,i<(1:Nat)->(True/\A (g.l.n=g.l.n)/\∀ i:Nat,i<g.l.n->(True/\A (J=J)/\A ((g.l.f i).x=(g.l.f i).x))/\A (J=J)/\A ((g.l.f i).y=(g.l.f i).y))/\A (g.l.c=g.l.c))/\True)/\A (Go.Proofs.YtmhofgchidojoaaGreat.Dsi.Lns.mk (1:Nat) fun (i:Nat)=>g.l).fin)/\True/\True/\True/\True/\True/\True/\True/\K (decide ((↑g.n:Int)<(1:Int))) (True/\True/\True/\True/\(True/\A ((g.out g.N).length=(0:Nat)))/\A (J=J)/\A ((2:Int)=(0:Int))) (True/\True/\True/\True/\K (decide ((16:Int)<(↑g.n:Int))) (True/\True/\True/\(True/\A ((g.out g.N).length=(0:Nat)))/\A (J=J)/\A ((2:Int)=(0:Int))) (True/\True/\True/\True/\(∃ g_1:Nat,A ((daSum g).pre g_1)/\((A (g.n=g.n)/\∀ i:Nat,i<g.n->True/\A (J=J)/\A (g.p i=g.p i))/\(A (J=J)/\A (g.ph=g.ph))/\A ((0:Nat)=(0:Nat))/\(A (J=J)/\A ((0:Int)=g.sum g_1))/\(A (g.n=g.n)/\∀ i:Nat,i<g.n->True/\A (J=J)/\A (g.p i=g.p i))/\(A (J=J)/\A ((↑g.n:Int)=(↑g.n:Int)))/\(A (J=J)/\A ((0:Int)=(↑g_1:Int)))/\True)/\((True/\A (g.l.n=g.l.n)/\∀ i:Nat,i<g.l.n->(True/\A (J=J)/\A ((g.l.f i).x=(g.l.f i).x))/\A (J=J)/\A ((g.l.f i).y=(g.l.f i).y))/\A (g.l.c=g.l.c))/\True)/\∀ g_1:Nat,(daSum g).pre g_1->True/\K (decide ((↑g_1:Int)<(↑g.n:Int))) (A ((0:Int)<=(↑g_1:Int)/\(↑g_1:Int)<(↑g.n:Int))/\True/\True/\True/\True/\True/\K (decide (g.p (↑g_1:Int).toNat<(1:Int))) (True/\True/\True/\True/\(True/\A ((g.out g.N).length=(0:Nat)))/\A (J=J)/\A ((3:Int)=(0:Int))) (True/\True/\True/\K (decide ((65535:Int)<g.p (↑g_1:Int).toNat)) (True/\True/\True/\(True/\A ((g.out g.N).length=(0:Nat)))/\A (J=J)/\A ((3:Int)=(0:Int))) (True/\True/\A ((-9223372036854775808:Int)<=g.sum g_1+g.p (↑g_1:Int).toNat/\g.sum g_1+g.p (↑g_1:Int).toNat<=(9223372036854775807:Int))/\True/\A ((-9223372036854775808:Int)<=(↑g_1:Int)+(1:Int)/\(↑g_1:Int)+(1:Int)<=(9223372036854775807:Int))/\True/\∃ (g':Nat),A ((daSum g).pre g')/\(((A (g.n=g.n)/\∀ i:Nat,i<g.n->True/\A (J=J)/\A (g.p i=g.p i))/\(A (J=J)/\A (g.ph=g.ph))/\A ((0:Nat)=(0:Nat))/\(A (J=J)/\A (g.sum g_1+g.p (↑g_1:Int).toNat=g.sum g'))/\(A (g.n=g.n)/\∀ i:Nat,i<g.n->True/\A (J=J)/\A (g.p i=g.p i))/\(A (J=J)/\A ((↑g.n:Int)=(↑g.n:Int)))/\(A (J=J)/\A ((↑g_1:Int)+(1:Int)=(↑g':Int)))/\True)/\((True/\A (g.l.n=g.l.n)/\∀ i:Nat,i<g.l.n->(True/\A (J=J)/\A ((g.l.f i).x=(g.l.f i).x))/\A (J=J)/\A ((g.l.f i).y=(g.l.f i).y))/\A (g.l.c=g.l.c))/\True)/\A ((daSum g).meas g'<(daSum g).meas g_1)))) (True/\True/\True/\K (decide (g.ph<(0:Int))) (True/\True/\True/\True/\(True/\A ((g.out g.N).length=(0:Nat)))/\A (J=J)/\A ((3:Int)=(0:Int))) (True/\True/\True/\K (decide ((1048576:Int)<g.ph)) (True/\True/\True/\(True/\A ((g.out g.N).length=(0:Nat)))/\A (J=J)/\A ((3:Int)=(0:Int))) ((True/\True/\A ((2:Int)≠(0:Int))/\True/\K (decide ((↑g.n:Int).tmod (2:Int)=(1:Int))) (True/\A ((-9223372036854775808:Int)<=g.sum g_1*(2:Int)/\g.sum g_1*(2:Int)<=(9223372036854775807:Int))/\True/\∃ g_2:Unit,A ((daCut g).pre g_2)/\((A (g.n=g.n)/\∀ i:Nat,i<g.n->True/\A (J=J)/\A (g.p i=g.p i))/\(A (J=J)/\A (g.ph=g.ph))/\A ((0:Nat)=(0:Nat))/\(A (J=J)/\A (g.sum g_1*(2:Int)=g.turn))/\True)/\((True/\A (g.l.n=g.l.n)/\∀ i:Nat,i<g.l.n->(True/\A (J=J)/\A ((g.l.f i).x=(g.l.f i).x))/\A (J=J)/\A ((g.l.f i).y=(g.l.f i).y))/\A (g.l.c=g.l.c))/\True) (∃ g_2:Unit,A ((daCut g).pre g_2)/\((A (g.n=g.n)/\∀ i:Nat,i<g.n->True/\A (J=J)/\A (g.p i=g.p i))/\(A (J=J)/\A (g.ph=g.ph))/\A ((0:Nat)=(0:Nat))/\(A (J=J)/\A (g.sum g_1=g.turn))/\True)/\((True/\A (g.l.n=g.l.n)/\∀ i:Nat,i<g.l.n->(True/\A (J=J)/\A ((g.l.f i).x=(g.l.f i).x))/\A (J=J)/\A ((g.l.f i).y=(g.l.f i).y))/\A (g.l.c=g.l.c))/\True))/\∀ g_2:Unit,(daCut g).pre g_2->True/\((((True/\A (g.l.n=g.l.n)/\∀ i:Nat,i<g.l.n->(True/\A (J=J)/\A ((g.l.f i).x=(g.l.f i).x))/\A (J=J)/\A ((g.l.f i).y=(g.l.f i).y))/\A (g.l.c=g.l.c))/\True)/\A g.l.ok)/\True/\True/\True/\True/\True/\True/\True/\True/\True/\True/\True/\True/\A (g.turn≠(0:Int))/\A ((-9223372036854775808:Int)<=(0:Int)-g.ph.tmod g.turn/\(0:Int)-g.ph.tmod g.turn<=(9223372036854775807:Int))/\True/\True/\(∃ (g_3:Nat×Nat),A ((daInv g).pre g_3)/\((A (g.n=g.n)/\∀ i:Nat,i<g.n->True/\A (J=J)/\A (g.p i=g.p i))/\(A (J=J)/\A (g.l.o g.l.m=g.E))/\A ((0:Nat)=(0:Nat))/\A ((0:Nat)=(0:Nat))/\True/\(A (J=J)/\A ((0:Int)-g.ph.tmod g.turn=g.at g_3.fst))/\(A (J=J)/\A ((0:Int)=(↑g_3.fst:Int)))/\True)/\((True/\A (g.l.n=g.l.n)/\∀ i:Nat,i<g.l.n->(True/\A (J=J)/\A ((g.l.f i).x=(g.l.f i).x))/\A (J=J)/\A ((g.l.f i).y=(g.l.f i).y))/\A (g.l.c=g.l.c))/\(True/\A (g.l.m=g.l.m-g_3.snd)/\∀ i:Nat,i<g.l.m-g_3.snd->(((((True/\A (J=J)/\A ((g.l.f i).x=(g.l.f (i+g_3.snd)).x))/\A (J=J)/\A ((g.l.f i).y=(g.l.f (i+g_3.snd)).y))/\A (J=J)/\A ((g.l.to i).x=(g.l.to (i+g_3.snd)).x))/\A (J=J)/\A ((g.l.to i).y=(g.l.to (i+g_3.snd)).y))/\A (J=J)/\A (g.l.o i=g.l.o (i+g_3.snd)))/\A (J=J)/\A (Go.Proofs.YtmhofgchidojoaaGreat.Dsh.lenPt (g.l.f i) (g.l.to i)=Go.Proofs.YtmhofgchidojoaaGreat.Dsh.lenPt (g.l.f (i+g_3.snd)) (g.l.to (i+g_3.snd))))/\(A ((0:Nat)=(g.out g_3.fst).length)/\∀ i:Nat,i<(g.out g_3.fst).length->(True/\False)/\False)/\True)/\∀ (g_3:Nat×Nat),(daInv g).pre g_3->True/\True/\True/\K (decide (g.at g_3.fst<g.E)) (True/\True/\True/\True/\True/\A ((↑g.n:Int)≠(0:Int))/\A ((0:Int)<=(↑g_3.fst:Int).tmod (↑g.n:Int)/\(↑g_3.fst:Int).tmod (↑g.n:Int)<(↑g.n:Int))/\True/\A ((-9223372036854775808:Int)<=g.at g_3.fst+g.p ((↑g_3.fst:Int).tmod (↑g.n:Int)).toNat/\g.at g_3.fst+g.p ((↑g_3.fst:Int).tmod (↑g.n:Int)).toNat<=(9223372036854775807:Int))/\True/\True/\True/\True/\True/\True/\True/\True/\True/\A ((2:Int)≠(0:Int))/\True/\True/\K (decide ((↑g_3.fst:Int).tmod (2:Int)=(0:Int))) (True/\True/\True/\True/\K (decide ((if (0:Int)>g.at g_3.fst then (0:Int) else g.at g_3.fst)<if g.E<g.at g_3.fst+g.p ((↑g_3.fst:Int).tmod (↑g.n:Int)).toNat then g.E else g.at g_3.fst+g.p ((↑g_3.fst:Int).tmod (↑g.n:Int)).toNat)) (True/\True/\True/\K (decide ((↑(g.out g_3.fst).length:Int)=(10000:Int))) (True/\True/\True/\(True/\A ((g.out g.N).length=(0:Nat)))/\A (J=J)/\A ((2:Int)=(0:Int))) (True/\True/\True/\((True/\(A ((0:Nat)=(0:Nat))/\(A (J=J)/\A ((if (0:Int)>g.at g_3.fst then (0:Int) else g.at g_3.fst)=if (0:Int)>g.at g_3.fst then (0:Int) else g.at g_3.fst))/\(A (J=J)/\A ((if g.E<g.at g_3.fst+g.p ((↑g_3.fst:Int).tmod (↑g.n:Int)).toNat then g.E else g.at g_3.fst+g.p ((↑g_3.fst:Int).tmod (↑g.n:Int)).toNat)=if g.E<g.at g_3.fst+g.p ((↑g_3.fst:Int).tmod (↑g.n:Int)).toNat then g.E else g.at g_3.fst+g.p ((↑g_3.fst:Int).tmod (↑g.n:Int)).toNat))/\True)/\(True/\A (g.l.m-g_3.snd=g.l.m-g_3.snd)/\∀ i:Nat,i<g.l.m-g_3.snd->(((((True/\A (J=J)/\A ((g.l.f (i+g_3.snd)).x=(g.l.f (i+g_3.snd)).x))/\A (J=J)/\A ((g.l.f (i+g_3.snd)).y=(g.l.f (i+g_3.snd)).y))/\A (J=J)/\A ((g.l.to (i+g_3.snd)).x=(g.l.to (i+g_3.snd)).x))/\A (J=J)/\A ((g.l.to (i+g_3.snd)).y=(g.l.to (i+g_3.snd)).y))/\A (J=J)/\A (g.l.o (i+g_3.snd)=g.l.o (i+g_3.snd)))/\A (J=J)/\A (Go.Proofs.YtmhofgchidojoaaGreat.Dsh.lenPt (g.l.f (i+g_3.snd)) (g.l.to (i+g_3.snd))=Go.Proofs.YtmhofgchidojoaaGreat.Dsh.lenPt (g.l.f (i+g_3.snd)) (g.l.to (i+g_3.snd))))/\True)/\A (Go.Proofs.YtmhofgchidojoaaGreat.Dsi.TkG.mk (g.l.m-g_3.snd) (fun (i:Nat)=>Go.Proofs.YtmhofgchidojoaaGreat.Dsh.Sd.mk (g.l.f (i+g_3.snd)) (g.l.to (i+g_3.snd)) (g.l.o (i+g_3.snd)) (Go.Proofs.YtmhofgchidojoaaGreat.Dsh.lenPt (g.l.f (i+g_3.snd)) (g.l.to (i+g_3.snd)))) (if (0:Int)>g.at g_3.fst then (0:Int) else g.at g_3.fst) (if g.E<g.at g_3.fst+g.p ((↑g_3.fst:Int).tmod (↑g.n:Int)).toNat then g.E else g.at g_3.fst+g.p ((↑g_3.fst:Int).tmod (↑g.n:Int)).toNat)).ok)/\True/\True/\A ((g.out g_3.fst).length+(1:Nat)<=(9223372036854775807:Nat)/\((g.out g_3.fst).length+(1:Nat))*(32:Nat)<=(140737488355328:Nat))/\True/\True/\True/\True/\A ((-9223372036854775808:Int)<=(↑g_3.fst:Int)+(1:Int)/\(↑g_3.fst:Int)+(1:Int)<=(9223372036854775807:Int))/\True/\∃ (g':Nat×Nat),A ((daInv g).pre g')/\(((A (g.n=g.n)/\∀ i:Nat,i<g.n->True/\A (J=J)/\A (g.p i=g.p i))/\(A (J=J)/\A (g.E=g.E))/\A ((0:Nat)=(0:Nat))/\A ((0:Nat)=(0:Nat))/\True/\(A (J=J)/\A (g.at g_3.fst+g.p ((↑g_3.fst:Int).tmod (↑g.n:Int)).toNat=g.at g'.fst))/\(A (J=J)/\A ((↑g_3.fst:Int)+(1:Int)=(↑g'.fst:Int)))/\True)/\((True/\A (g.l.n=g.l.n)/\∀ i:Nat,i<g.l.n->(True/\A (J=J)/\A ((g.l.f i).x=(g.l.f i).x))/\A (J=J)/\A ((g.l.f i).y=(g.l.f i).y))/\A (g.l.c=g.l.c))/\(True/\A (g.l.m-g_3.snd-(Go.Proofs.YtmhofgchidojoaaGreat.Dsi.TkG.mk (g.l.m-g_3.snd) (fun (i:Nat)=>Go.Proofs.YtmhofgchidojoaaGreat.Dsh.Sd.mk (g.l.f (i+g_3.snd)) (g.l.to (i+g_3.snd)) (g.l.o (i+g_3.snd)) (Go.Proofs.YtmhofgchidojoaaGreat.Dsh.lenPt (g.l.f (i+g_3.snd)) (g.l.to (i+g_3.snd)))) (if (0:Int)>g.at g_3.fst then (0:Int) else g.at g_3.fst) (if g.E<g.at g_3.fst+g.p ((↑g_3.fst:Int).tmod (↑g.n:Int)).toNat then g.E else g.at g_3.fst+g.p ((↑g_3.fst:Int).tmod (↑g.n:Int)).toNat)).k=g.l.m-g'.snd)/\∀ i:Nat,i<g.l.m-g'.snd->(((((True/\A (J=J)/\A ((g.l.f (i+(Go.Proofs.YtmhofgchidojoaaGreat.Dsi.TkG.mk (g.l.m-g_3.snd) (fun (i:Nat)=>Go.Proofs.YtmhofgchidojoaaGreat.Dsh.Sd.mk (g.l.f (i+g_3.snd)) (g.l.to (i+g_3.snd)) (g.l.o (i+g_3.snd)) (Go.Proofs.YtmhofgchidojoaaGreat.Dsh.lenPt (g.l.f (i+g_3.snd)) (g.l.to (i+g_3.snd)))) (if (0:Int)>g.at g_3.fst then (0:Int) else g.at g_3.fst) (if g.E<g.at g_3.fst+g.p ((↑g_3.fst:Int).tmod (↑g.n:Int)).toNat then g.E else g.at g_3.fst+g.p ((↑g_3.fst:Int).tmod (↑g.n:Int)).toNat)).k+g_3.snd)).x=(g.l.f (i+g'.snd)).x))/\A (J=J)/\A ((g.l.f (i+(Go.Proofs.YtmhofgchidojoaaGreat.Dsi.TkG.mk (g.l.m-g_3.snd) (fun (i:Nat)=>Go.Proofs.YtmhofgchidojoaaGreat.Dsh.Sd.mk (g.l.f (i+g_3.snd)) (g.l.to (i+g_3.snd)) (g.l.o (i+g_3.snd)) (Go.Proofs.YtmhofgchidojoaaGreat.Dsh.lenPt (g.l.f (i+g_3.snd)) (g.l.to (i+g_3.snd)))) (if (0:Int)>g.at g_3.fst then (0:Int) else g.at g_3.fst) (if g.E<g.at g_3.fst+g.p ((↑g_3.fst:Int).tmod (↑g.n:Int)).toNat then g.E else g.at g_3.fst+g.p ((↑g_3.fst:Int).tmod (↑g.n:Int)).toNat)).k+g_3.snd)).y=(g.l.f (i+g'.snd)).y))/\A (J=J)/\A ((g.l.to (i+(Go.Proofs.YtmhofgchidojoaaGreat.Dsi.TkG.mk (g.l.m-g_3.snd) (fun (i:Nat)=>Go.Proofs.YtmhofgchidojoaaGreat.Dsh.Sd.mk (g.l.f (i+g_3.snd)) (g.l.to (i+g_3.snd)) (g.l.o (i+g_3.snd)) (Go.Proofs.YtmhofgchidojoaaGreat.Dsh.lenPt (g.l.f (i+g_3.snd)) (g.l.to (i+g_3.snd)))) (if (0:Int)>g.at g_3.fst then (0:Int) else g.at g_3.fst) (if g.E<g.at g_3.fst+g.p ((↑g_3.fst:Int).tmod (↑g.n:Int)).toNat then g.E else g.at g_3.fst+g.p ((↑g_3.fst:Int).tmod (↑g.n:Int)).toNat)).k+g_3.snd)).x=(g.l.to (i+g'.snd)).x))/\A (J=J)/\A ((g.l.to (i+(Go.Proofs.YtmhofgchidojoaaGreat.Dsi.TkG.mk (g.l.m-g_3.snd) (fun (i:Nat)=>Go.Proofs.YtmhofgchidojoaaGreat.Dsh.Sd.mk (g.l.f (i+g_3.snd)) (g.l.to (i+g_3.snd)) (g.l.o (i+g_3.snd)) (Go.Proofs.YtmhofgchidojoaaGreat.Dsh.lenPt (g.l.f (i+g_3.snd)) (g.l.to (i+g_3.snd)))) (if (0:Int)>g.at g_3.fst then (0:Int) else g.at g_3.fst) (if g.E<g.at g_3.fst+g.p ((↑g_3.fst:Int).tmod (↑g.n:Int)).toNat then g.E else g.at g_3.fst+g.p ((↑g_3.fst:Int).tmod (↑g.n:Int)).toNat)).k+g_3.snd)).y=(g.l.to (i+g'.snd)).y))/\A (J=J)/\A (g.l.o (i+(Go.Proofs.YtmhofgchidojoaaGreat.Dsi.TkG.mk (g.l.m-g_3.snd) (fun (i:Nat)=>Go.Proofs.YtmhofgchidojoaaGreat.Dsh.Sd.mk (g.l.f (i+g_3.snd)) (g.l.to (i+g_3.snd)) (g.l.o (i+g_3.snd)) (Go.Proofs.YtmhofgchidojoaaGreat.Dsh.lenPt (g.l.f (i+g_3.snd)) (g.l.to (i+g_3.snd)))) (if (0:Int)>g.at g_3.fst then (0:Int) else g.at g_3.fst) (if g.E<g.at g_3.fst+g.p ((↑g_3.fst:Int).tmod (↑g.n:Int)).toNat then g.E else g.at g_3.fst+g.p ((↑g_3.fst:Int).tmod (↑g.n:Int)).toNat)).k+g_3.snd)=g.l.o (i+g'.snd)))/\A (J=J)/\A (Go.Proofs.YtmhofgchidojoaaGreat.Dsh.lenPt (g.l.f (i+(Go.Proofs.YtmhofgchidojoaaGreat.Dsi.TkG.mk (g.l.m-g_3.snd) (fun (i:Nat)=>Go.Proofs.YtmhofgchidojoaaGreat.Dsh.Sd.mk (g.l.f (i+g_3.snd)) (g.l.to (i+g_3.snd)) (g.l.o (i+g_3.snd)) (Go.Proofs.YtmhofgchidojoaaGreat.Dsh.lenPt (g.l.f (i+g_3.snd)) (g.l.to (i+g_3.snd)))) (if (0:Int)>g.at g_3.fst then (0:Int) else g.at g_3.fst) (if g.E<g.at g_3.fst+g.p ((↑g_3.fst:Int).tmod (↑g.n:Int)).toNat then g.E else g.at g_3.fst+g.p ((↑g_3.fst:Int).tmod (↑g.n:Int)).toNat)).k+g_3.snd)) (g.l.to (i+(Go.Proofs.YtmhofgchidojoaaGreat.Dsi.TkG.mk (g.l.m-g_3.snd) (fun (i:Nat)=>Go.Proofs.YtmhofgchidojoaaGreat.Dsh.Sd.mk (g.l.f (i+g_3.snd)) (g.l.to (i+g_3.snd)) (g.l.o (i+g_3.snd)) (Go.Proofs.YtmhofgchidojoaaGreat.Dsh.lenPt (g.l.f (i+g_3.snd)) (g.l.to (i+g_3.snd)))) (if (0:Int)>g.at g_3.fst then (0:Int) else g.at g_3.fst) (if g.E<g.at g_3.fst+g.p ((↑g_3.fst:Int).tmod (↑g.n:Int)).toNat then g.E else g.at g_3.fst+g.p ((↑g_3.fst:Int).tmod (↑g.n:Int)).toNat)).k+g_3.snd))=Go.Proofs.YtmhofgchidojoaaGreat.Dsh.lenPt (g.l.f (i+g'.snd)) (g.l.to (i+g'.snd))))/\(A ((g.out g_3.fst).length+(1:Nat)=(g.out g'.fst).length)/\∀ i:Nat,i<(g.out g'.fst).length->(True/\A ((bif decide (i<(g.out g_3.fst).length) then (dI (g.out g_3.fst) i).length else (Go.Proofs.YtmhofgchidojoaaGreat.Dsi.TkG.mk (g.l.m-g_3.snd) (fun (i:Nat)=>Go.Proofs.YtmhofgchidojoaaGreat.Dsh.Sd.mk (g.l.f (i+g_3.snd)) (g.l.to (i+g_3.snd)) (g.l.o (i+g_3.snd)) (Go.Proofs.YtmhofgchidojoaaGreat.Dsh.lenPt (g.l.f (i+g_3.snd)) (g.l.to (i+g_3.snd)))) (if (0:Int)>g.at g_3.fst then (0:Int) else g.at g_3.fst) (if g.E<g.at g_3.fst+g.p ((↑g_3.fst:Int).tmod (↑g.n:Int)).toNat then g.E else g.at g_3.fst+g.p ((↑g_3.fst:Int).tmod (↑g.n:Int)).toNat)).L.length)=(dI (g.out g'.fst) i).length)/\∀ i_1:Nat,i_1<(dI (g.out g'.fst) i).length->(True/\A (J=J)/\A ((bif decide (i<(g.out g_3.fst).length) then (Go.Proofs.YtmhofgchidojoaaGreat.Dsi.ptI (dI (g.out g_3.fst) i) i_1).x else (Go.Proofs.YtmhofgchidojoaaGreat.Dsi.ptI (Go.Proofs.YtmhofgchidojoaaGreat.Dsi.TkG.mk (g.l.m-g_3.snd) (fun (i:Nat)=>Go.Proofs.YtmhofgchidojoaaGreat.Dsh.Sd.mk (g.l.f (i+g_3.snd)) (g.l.to (i+g_3.snd)) (g.l.o (i+g_3.snd)) (Go.Proofs.YtmhofgchidojoaaGreat.Dsh.lenPt (g.l.f (i+g_3.snd)) (g.l.to (i+g_3.snd)))) (if (0:Int)>g.at g_3.fst then (0:Int) else g.at g_3.fst) (if g.E<g.at g_3.fst+g.p ((↑g_3.fst:Int).tmod (↑g.n:Int)).toNat then g.E else g.at g_3.fst+g.p ((↑g_3.fst:Int).tmod (↑g.n:Int)).toNat)).L i_1).x)=(Go.Proofs.YtmhofgchidojoaaGreat.Dsi.ptI (dI (g.out g'.fst) i) i_1).x))/\A (J=J)/\A ((bif decide (i<(g.out g_3.fst).length) then (Go.Proofs.YtmhofgchidojoaaGreat.Dsi.ptI (dI (g.out g_3.fst) i) i_1).y else (Go.Proofs.YtmhofgchidojoaaGreat.Dsi.ptI (Go.Proofs.YtmhofgchidojoaaGreat.Dsi.TkG.mk (g.l.m-g_3.snd) (fun (i:Nat)=>Go.Proofs.YtmhofgchidojoaaGreat.Dsh.Sd.mk (g.l.f (i+g_3.snd)) (g.l.to (i+g_3.snd)) (g.l.o (i+g_3.snd)) (Go.Proofs.YtmhofgchidojoaaGreat.Dsh.lenPt (g.l.f (i+g_3.snd)) (g.l.to (i+g_3.snd)))) (if (0:Int)>g.at g_3.fst then (0:Int) else g.at g_3.fst) (if g.E<g.at g_3.fst+g.p ((↑g_3.fst:Int).tmod (↑g.n:Int)).toNat then g.E else g.at g_3.fst+g.p ((↑g_3.fst:Int).tmod (↑g.n:Int)).toNat)).L i_1).y)=(Go.Proofs.YtmhofgchidojoaaGreat.Dsi.ptI (dI (g.out g'.fst) i) i_1).y))/\A (false=false))/\True)/\A ((daInv g).meas g'<(daInv g).meas g_3))) (True/\True/\True/\A ((-9223372036854775808:Int)<=(↑g_3.fst:Int)+(1:Int)/\(↑g_3.fst:Int)+(1:Int)<=(9223372036854775807:Int))/\True/\∃ (g':Nat×Nat),A ((daInv g).pre g')/\(((A (g.n=g.n)/\∀ i:Nat,i<g.n->True/\A (J=J)/\A (g.p i=g.p i))/\(A (J=J)/\A (g.E=g.E))/\A ((0:Nat)=(0:Nat))/\A ((0:Nat)=(0:Nat))/\True/\(A (J=J)/\A (g.at g_3.fst+g.p ((↑g_3.fst:Int).tmod (↑g.n:Int)).toNat=g.at g'.fst))/\(A (J=J)/\A ((↑g_3.fst:Int)+(1:Int)=(↑g'.fst:Int)))/\True)/\((True/\A (g.l.n=g.l.n)/\∀ i:Nat,i<g.l.n->(True/\A (J=J)/\A ((g.l.f i).x=(g.l.f i).x))/\A (J=J)/\A ((g.l.f i).y=(g.l.f i).y))/\A (g.l.c=g.l.c))/\(True/\A (g.l.m-g_3.snd=g.l.m-g'.snd)/\∀ i:Nat,i<g.l.m-g'.snd->(((((True/\A (J=J)/\A ((g.l.f (i+g_3.snd)).x=(g.l.f (i+g'.snd)).x))/\A (J=J)/\A ((g.l.f (i+g_3.snd)).y=(g.l.f (i+g'.snd)).y))/\A (J=J)/\A ((g.l.to (i+g_3.snd)).x=(g.l.to (i+g'.snd)).x))/\A (J=J)/\A ((g.l.to (i+g_3.snd)).y=(g.l.to (i+g'.snd)).y))/\A (J=J)/\A (g.l.o (i+g_3.snd)=g.l.o (i+g'.snd)))/\A (J=J)/\A (Go.Proofs.YtmhofgchidojoaaGreat.Dsh.lenPt (g.l.f (i+g_3.snd)) (g.l.to (i+g_3.snd))=Go.Proofs.YtmhofgchidojoaaGreat.Dsh.lenPt (g.l.f (i+g'.snd)) (g.l.to (i+g'.snd))))/\(A ((g.out g_3.fst).length=(g.out g'.fst).length)/\∀ i:Nat,i<(g.out g'.fst).length->(True/\A ((dI (g.out g_3.fst) i).length=(dI (g.out g'.fst) i).length)/\∀ i_1:Nat,i_1<(dI (g.out g'.fst) i).length->(True/\A (J=J)/\A ((Go.Proofs.YtmhofgchidojoaaGreat.Dsi.ptI (dI (g.out g_3.fst) i) i_1).x=(Go.Proofs.YtmhofgchidojoaaGreat.Dsi.ptI (dI (g.out g'.fst) i) i_1).x))/\A (J=J)/\A ((Go.Proofs.YtmhofgchidojoaaGreat.Dsi.ptI (dI (g.out g_3.fst) i) i_1).y=(Go.Proofs.YtmhofgchidojoaaGreat.Dsi.ptI (dI (g.out g'.fst) i) i_1).y))/\A (false=false))/\True)/\A ((daInv g).meas g'<(daInv g).meas g_3))) (True/\True/\True/\True/\A ((-9223372036854775808:Int)<=(↑g_3.fst:Int)+(1:Int)/\(↑g_3.fst:Int)+(1:Int)<=(9223372036854775807:Int))/\True/\∃ (g':Nat×Nat),A ((daInv g).pre g')/\(((A (g.n=g.n)/\∀ i:Nat,i<g.n->True/\A (J=J)/\A (g.p i=g.p i))/\(A (J=J)/\A (g.E=g.E))/\A ((0:Nat)=(0:Nat))/\A ((0:Nat)=(0:Nat))/\True/\(A (J=J)/\A (g.at g_3.fst+g.p ((↑g_3.fst:Int).tmod (↑g.n:Int)).toNat=g.at g'.fst))/\(A (J=J)/\A ((↑g_3.fst:Int)+(1:Int)=(↑g'.fst:Int)))/\True)/\((True/\A (g.l.n=g.l.n)/\∀ i:Nat,i<g.l.n->(True/\A (J=J)/\A ((g.l.f i).x=(g.l.f i).x))/\A (J=J)/\A ((g.l.f i).y=(g.l.f i).y))/\A (g.l.c=g.l.c))/\(True/\A (g.l.m-g_3.snd=g.l.m-g'.snd)/\∀ i:Nat,i<g.l.m-g'.snd->(((((True/\A (J=J)/\A ((g.l.f (i+g_3.snd)).x=(g.l.f (i+g'.snd)).x))/\A (J=J)/\A ((g.l.f (i+g_3.snd)).y=(g.l.f (i+g'.snd)).y))/\A (J=J)/\A ((g.l.to (i+g_3.snd)).x=(g.l.to (i+g'.snd)).x))/\A (J=J)/\A ((g.l.to (i+g_3.snd)).y=(g.l.to (i+g'.snd)).y))/\A (J=J)/\A (g.l.o (i+g_3.snd)=g.l.o (i+g'.snd)))/\A (J=J)/\A (Go.Proofs.YtmhofgchidojoaaGreat.Dsh.lenPt (g.l.f (i+g_3.snd)) (g.l.to (i+g_3.snd))=Go.Proofs.YtmhofgchidojoaaGreat.Dsh.lenPt (g.l.f (i+g'.snd)) (g.l.to (i+g'.snd))))/\(A ((g.out g_3.fst).length=(g.out g'.fst).length)/\∀ i:Nat,i<(g.out g'.fst).length->(True/\A ((dI (g.out g_3.fst) i).length=(dI (g.out g'.fst) i).length)/\∀ i_1:Nat,i_1<(dI (g.out g'.fst) i).length->(True/\A (J=J)/\A ((Go.Proofs.YtmhofgchidojoaaGreat.Dsi.ptI (dI (g.out g_3.fst) i) i_1).x=(Go.Proofs.YtmhofgchidojoaaGreat.Dsi.ptI (dI (g.out g'.fst) i) i_1).x))/\A (J=J)/\A ((Go.Proofs.YtmhofgchidojoaaGreat.Dsi.ptI (dI (g.out g_3.fst) i) i_1).y=(Go.Proofs.YtmhofgchidojoaaGreat.Dsi.ptI (dI (g.out g'.fst) i) i_1).y))/\A (false=false))/\True)/\A ((daInv g).meas g'<(daInv g).meas g_3))) (True/\True/\True/\True/\(True/\A ((g.out g_3.fst).length=(g.out g.N).length)/\∀ i:Nat,i<(g.out g.N).length->(True/\A ((dI (g.out g_3.fst) i).length=(dI (g.out g.N) i).length)/\∀ i_1:Nat,i_1<(dI (g.out g.N) i).length->(True/\A (J=J)/\A ((Go.Proofs.YtmhofgchidojoaaGreat.Dsi.ptI (dI (g.out g_3.fst) i) i_1).x=(Go.Proofs.YtmhofgchidojoaaGreat.Dsi.ptI (dI (g.out g.N) i) i_1).x))/\A (J=J)/\A ((Go.Proofs.YtmhofgchidojoaaGreat.Dsi.ptI (dI (g.out g_3.fst) i) i_1).y=(Go.Proofs.YtmhofgchidojoaaGreat.Dsi.ptI (dI (g.out g.N) i) i_1).y))/\A (false=false))/\A (J=J)/\A ((0:Int)=(0:Int))))))))) (by kernel_rfl) ?_
 simp only [ask_iff,br_iff,eq_self,true_and,and_true,implies_true,forall_const,decide_eq_true_eq,decide_eq_false_iff_not,ne_eq,Nat.mul_one,Nat.add_zero,Nat.zero_add]
 have hg':=hg
 obtain ⟨⟨hl,hn1,hn2⟩,hp,hph⟩:=hg
 have ht:=g.turn_ok hg'
 have hE:=g.E_ok hg'
 refine ⟨lns1 hl,fun h=>absurd h (by omega),fun _=>⟨fun h=>absurd h (by omega),fun _=>⟨⟨0,Nat.zero_le _,rfl,rfl⟩,fun i hi=>⟨fun h=>?_,fun h=>?_⟩⟩⟩⟩
 ·have hpi:=hp i (by omega)
  have hs:=g.sum_ok hg' i (by omega)
  have ei:((i:Int)).toNat=i:=rfl
  rw [ei]
  refine ⟨by omega,fun h=>absurd h (by omega),fun _=>⟨fun h=>absurd h (by omega),fun _=>⟨by omega,by omega,i+1,?_,⟨rfl,rfl⟩,?_⟩⟩⟩
  ·show i+1<=g.n; omega
  ·show g.n-(i+1)<g.n-i; omega
 refine ⟨fun h=>absurd h (by omega),fun _=>⟨fun h=>absurd h (by omega),fun _=>⟨?_,?_⟩⟩⟩
 ·have hi:i<=g.n:=hi
  obtain rfl:i=g.n:=by omega
  have hs:=g.sum_ok hg' g.n hi
  have em:((g.n:Int)).tmod 2=((g.n % 2:Nat):Int):=rfl
  rw [em]
  refine ⟨by decide,fun h=>⟨by omega,(),trivial,?_⟩,fun h=>⟨(),trivial,?_⟩⟩
  ·unfold DaG.turn; rw [if_pos (by omega)]
  ·unfold DaG.turn; rw [if_neg (by omega)]
 rintro _ _
 have et:g.ph.tmod g.turn=g.ph % g.turn:=Int.tmod_eq_emod_of_nonneg hph.1
 have h0:=g.at_0 hg'
 have e0:g.at 0 = -(g.ph % g.turn):=rfl
 rw [et]
 refine ⟨hl,by omega,by omega,⟨(0,0),⟨Nat.zero_le _,fun j hj=>absurd hj (Nat.not_lt_zero j),fun h=>absurd h (Nat.lt_irrefl 0)⟩,⟨rfl,by show _=g.at 0; omega,rfl⟩,⟨rfl,fun i _=>six (s:=g.l.sd i) rfl⟩,rfl,fun i hi=>absurd hi (Nat.not_lt_zero i)⟩,?_⟩
 rintro ⟨i,k⟩ hi
 dsimp only
 have ea:(if 0>g.at i then 0 else g.at i)=g.a i:=rfl
 have er:((i:Int).tmod (g.n:Int)).toNat=i % g.n:=rfl
 have es:g.at i+g.p (i % g.n)=g.at (i+1):=rfl
 have eb:(if g.E<g.at (i+1) then g.E else g.at (i+1))=g.b i:=rfl
 have ed:∀ j,(⟨g.l.f j,g.l.to j,g.l.o j,lenPt (g.l.f j) (g.l.to j)⟩:Sd)=g.l.sd j:=fun _=>rfl
 simp only [er,es,eb,ea,ed]
 generalize hG:({ m:=g.l.m-k,s:=fun i=>g.l.sd (i+k),a:=g.a i,b:=g.b i }:TkG)=G
 obtain ⟨hk,hd,hpr⟩:k<=g.l.m/\(∀ j,j<k->(g.l.sd j).size=0\/(g.l.sd j).o+(g.l.sd j).size<g.a i)/\(0<i->g.at (i-1)<g.E):=hi
 have hup:=g.at_up hg' i
 have hau:=g.a_up hg' i
 have hi0:2*((g.out i).length:Int)<=max (g.at i) 0+2:=(g.len_ok hg' i).1
 refine ⟨fun hlt=>?_,fun hge=>?_⟩
 ·have hN:=g.lt_N hg' hlt
  have hlo:=g.at_lo hg' i
  have hms:g.N-(i+1)<g.N-i:=by omega
  have e2:((i:Int)).tmod 2=((i % 2:Nat):Int):=rfl
  have e3:((i:Int)).tmod (g.n:Int)=((i % g.n:Nat):Int):=rfl
  have hmod:=Nat.mod_lt i (show g.n>0 by omega)
  have hiN:(i:Int)<=100000:=by unfold DaG.N at hN; omega
  have c1 : -9223372036854775808<=(i:Int)+1/\(i:Int)+1<=9223372036854775807:=by omega
  have stay:¬ g.on i->∃ g':Nat×Nat,(daInv g).pre g'/\((g.at (i+1)=g.at g'.1/\(i:Int)+1=g'.1)/\(g.l.m-k=g.l.m-g'.2/\∀ j,j<g.l.m-g'.2->(((((g.l.f (j+k)).x=(g.l.f (j+g'.2)).x/\(g.l.f (j+k)).y=(g.l.f (j+g'.2)).y)/\(g.l.to (j+k)).x=(g.l.to (j+g'.2)).x)/\(g.l.to (j+k)).y=(g.l.to (j+g'.2)).y)/\g.l.o (j+k)=g.l.o (j+g'.2))/\lenPt (g.l.f (j+k)) (g.l.to (j+k))=lenPt (g.l.f (j+g'.2)) (g.l.to (j+g'.2)))/\
    (g.out i).length=(g.out g'.1).length/\∀ j,j<(g.out g'.1).length->(dI (g.out i) j).length=(dI (g.out g'.1) j).length/\∀ r,r<(dI (g.out g'.1) j).length->(ptI (dI (g.out i) j) r).x=(ptI (dI (g.out g'.1) j) r).x/\(ptI (dI (g.out i) j) r).y=(ptI (dI (g.out g'.1) j) r).y)/\(daInv g).meas g'<(daInv g).meas (i,k):=fun hon=>by
   have eo:g.out (i+1)=g.out i:=if_neg hon
   refine ⟨(i+1,k),⟨hk,fun j hj=>(hd j hj).imp id fun h=>Int.lt_of_lt_of_le h hau.1,fun _=>hlt⟩,⟨⟨rfl,rfl⟩,⟨rfl,fun j _=>six (s:=g.l.sd (j+k)) rfl⟩,?_⟩,hms⟩
   show (g.out i).length=(g.out (i+1)).length/\∀ j,j<(g.out (i+1)).length->(dI (g.out i) j).length=(dI (g.out (i+1)) j).length/\∀ r,r<(dI (g.out (i+1)) j).length->(ptI (dI (g.out i) j) r).x=(ptI (dI (g.out (i+1)) j) r).x/\(ptI (dI (g.out i) j) r).y=(ptI (dI (g.out (i+1)) j) r).y
   rw [eo]
   exact ⟨rfl,fun _ _=>⟨rfl,fun _ _=>⟨rfl,rfl⟩⟩⟩
  rw [e2,e3]
  refine ⟨by omega,by omega,by omega,by decide,fun hm=>⟨fun hab=>⟨fun h=>absurd h (by omega),fun _=>?_⟩,fun hab=>⟨c1,stay fun h=>hab h.2⟩⟩,fun hm=>⟨c1,stay fun h=>hm (by have:=h.1; omega)⟩⟩
  have hon:g.on i:=⟨by omega,hab⟩
  have haE:g.a i<g.E:=by unfold DaG.b at hab; split at hab<;>omega
  have hb:g.b i<=g.E:=by unfold DaG.b; split<;>omega
  obtain ⟨j,j1,j2,j3⟩:=ex_side g.l hau.2 g.l.m (fun j hj=>(Li.len0 hl hj).1) haE
  have hjk:k<=j:=by
   rcases Nat.lt_or_ge j k with hc | hc
   ·have:=hd j hc; omega
   ·exact hc
  have hGk:G.k<=G.m:=(sk_spec _ _ _).1
  have hGm:G.m=g.l.m-k:=by rw [<-hG]
  have hGd:=(sk_spec G.a G.m G.s).2.1
  have hGa:G.a=g.a i:=by rw [<-hG]
  have hGs:∀ j,G.s j=g.l.sd (j+k):=by rw [<-hG]; exact fun _=>rfl
  have eL:G.L=g.T i:=by rw [<-hG]; exact L_shift hk hd
  have eo:g.out (i+1)=g.out i++[G.L]:=by rw [eL]; exact if_pos hon
  have hGok:G.ok:=by
   rw [<-hG]
   refine ⟨⟨li_sides hl k,⟨hau.2,by show g.a i<=_; omega⟩,by show 0<=g.b i; omega,by show g.b i<=_; omega⟩,j-k,by show j-k<g.l.m-k; omega,?_⟩
   show 0<(g.l.sd (j-k+k)).size/\g.a i<=(g.l.sd (j-k+k)).o+(g.l.sd (j-k+k)).size
   rw [show j-k+k=j by omega]
   omega
  have hl2:(g.out (i+1)).length=(g.out i).length+1:=by rw [eo]; simp
  refine ⟨hGok,by omega,c1,(i+1,G.k+k),⟨by show G.k+k<=_; omega,fun r hr=>?_,fun _=>hlt⟩,⟨⟨rfl,rfl⟩,⟨by show _=g.l.m-(G.k+k); omega,fun r _=>six (s:=g.l.sd (r+G.k+k)) (congrArg g.l.sd (by show r+G.k+k=r+(G.k+k); omega))⟩,?_⟩,hms⟩
  ·have hr:r<G.k+k:=hr
   show _\/_<g.a (i+1)
   rcases Nat.lt_or_ge r k with hc | hc
   ·exact (hd r hc).imp id fun h=>Int.lt_of_lt_of_le h hau.1
   ·have:=hGd (r-k) (by show r-k<G.k; omega)
    rw [hGs,hGa,show r-k+k=r by omega] at this
    exact this.imp id fun h=>Int.lt_of_lt_of_le h hau.1
  ·show (g.out i).length+1=(g.out (i+1)).length/\∀ j,j<(g.out (i+1)).length->(bif decide (j<(g.out i).length) then (dI (g.out i) j).length else G.L.length)=(dI (g.out (i+1)) j).length/\∀ r,r<(dI (g.out (i+1)) j).length->(bif decide (j<(g.out i).length) then (ptI (dI (g.out i) j) r).x else (ptI G.L r).x)=(ptI (dI (g.out (i+1)) j) r).x/\(bif decide (j<(g.out i).length) then (ptI (dI (g.out i) j) r).y else (ptI G.L r).y)=(ptI (dI (g.out (i+1)) j) r).y
   refine ⟨hl2.symm,?_⟩
   rw [eo]
   exact fun j hj=>dI_app _ _ j hj
 ·have hiN:i<=g.N:=by
   rcases Nat.eq_zero_or_pos i with h | h
   ·omega
   ·have:=g.lt_N hg' (hpr h); omega
  rw [g.stopN hg' (by omega) hiN]
  exact ⟨rfl,fun _ _=>⟨rfl,fun _ _=>⟨rfl,rfl⟩⟩⟩
end Go.Proofs.YtmhofgchidojoaaGreat.Dsj
set_option linter.unusedSimpArgs false
set_option linter.unusedVariables false
namespace Go.Proofs.YtmhofgchidojoaaGreat.Tdq
open Go.RowKit Sx Num Aff Con Fla Sta Stb Stc Sto Stl Stv Tdg
set_option maxRecDepth 100000
theorem eqPt_eq {a b:Pt}(h:eqPt a b):a=b:=by
 obtain ⟨a1,a2⟩:=a
 obtain ⟨b1,b2⟩:=b
 obtain ⟨h1,h2⟩:=h
 have h1:a1=b1:=h1
 have h2:a2=b2:=h2
 rw [h1,h2]
theorem dd_last (f:Nat->Pt):∀ k,(dd f (k+1)).length≠0/\lastP (dd f (k+1))=f k:=by
 intro k
 have e:dd f (k+1)=if (dd f k).length=0\/¬ eqPt (lastP (dd f k)) (f k) then dd f k++[f k] else dd f k:=rfl
 rw [e]
 split
 ·refine ⟨by rw [List.length_append]; exact Nat.succ_ne_zero _,?_⟩
  unfold lastP
  rw [List.length_append,List.length_singleton,gP_app (dd f k) (f k) (show (dd f k).length+1-1<(dd f k).length+1 by omega)]
  exact if_neg (by show ¬ (dd f k).length+1-1<(dd f k).length; omega)
 ·rename_i hc
  exact ⟨fun h=>hc (.inl h),eqPt_eq (Classical.not_not.1 fun h=>hc (.inr h))⟩
theorem dd_side (f:Nat->Pt):∀ k i,i+1<(dd f k).length->∃ j,j+1<k/\gP (dd f k) i=f j/\gP (dd f k) (i+1)=f (j+1)
 | 0,i,h=>absurd h (Nat.not_lt_zero _)
 | 1,i,h=>by
  have:=(dd_len f 1)
  omega
 | k+2,i,h=>by
  have e:dd f (k+2)=if (dd f (k+1)).length=0\/¬ eqPt (lastP (dd f (k+1))) (f (k+1)) then dd f (k+1)++[f (k+1)] else dd f (k+1):=rfl
  obtain ⟨l0,l1⟩:=dd_last f k
  rw [e] at h ⊢
  split at h
  ·rename_i hc
   rw [if_pos hc]
   rw [List.length_append] at h
   have h:i+1<(dd f (k+1)).length+1:=h
   rw [gP_app _ _ (show i<(dd f (k+1)).length+1 by omega),gP_app _ _ h,if_pos (show i<(dd f (k+1)).length by omega)]
   by_cases hi:i+1<(dd f (k+1)).length
   ·rw [if_pos hi]
    obtain ⟨j,a,b,c⟩:=dd_side f (k+1) i hi
    exact ⟨j,by omega,b,c⟩
   ·rw [if_neg hi]
    refine ⟨k,by omega,?_,rfl⟩
    rw [<-l1]
    unfold lastP
    rw [show (dd f (k+1)).length-1=i by omega]
  ·rename_i hc
   rw [if_neg hc]
   obtain ⟨j,a,b,c⟩:=dd_side f (k+1) i h
   exact ⟨j,by omega,b,c⟩
theorem dd_has (f:Nat->Pt):∀ k j,j+1<k->¬ eqPt (f j) (f (j+1))->∃ i,i+1<(dd f k).length/\gP (dd f k) i=f j/\gP (dd f k) (i+1)=f (j+1)
 | 0,j,h,_=>absurd h (Nat.not_lt_zero _)
 | 1,j,h,_=>by omega
 | k+2,j,h,hne=>by
  have e:dd f (k+2)=if (dd f (k+1)).length=0\/¬ eqPt (lastP (dd f (k+1))) (f (k+1)) then dd f (k+1)++[f (k+1)] else dd f (k+1):=rfl
  obtain ⟨l0,l1⟩:=dd_last f k
  by_cases hj:j=k
  ·subst hj
   have hc:(dd f (j+1)).length=0\/¬ eqPt (lastP (dd f (j+1))) (f (j+1)):= .inr (by rw [l1]; exact hne)
   rw [e,if_pos hc]
   refine ⟨(dd f (j+1)).length-1,by rw [List.length_append]; show _<(dd f (j+1)).length+1; omega,?_,?_⟩
   ·rw [gP_app _ _ (by omega),if_pos (by omega)]
    exact l1
   ·rw [gP_app _ _ (by omega),if_neg (by omega)]
  ·obtain ⟨i,a,b,c⟩:=dd_has f (k+1) j (by omega) hne
   rw [e]
   split
   ·refine ⟨i,by rw [List.length_append]; exact Nat.lt_succ_of_lt a,?_,?_⟩
    ·rw [gP_app _ _ (by omega),if_pos (by omega)]; exact b
    ·rw [gP_app _ _ (by omega),if_pos (by omega)]; exact c
   ·exact ⟨i,a,b,c⟩
theorem dd_first (f:Nat->Pt):∀ k,gP (dd f (k+1)) 0=f 0
 | 0=>rfl
 | k+1=>by
  have e:dd f (k+2)=if (dd f (k+1)).length=0\/¬ eqPt (lastP (dd f (k+1))) (f (k+1)) then dd f (k+1)++[f (k+1)] else dd f (k+1):=rfl
  obtain ⟨l0,-⟩:=dd_last f k
  rw [e]
  split
  ·rw [gP_app _ _ (by omega),if_pos (by omega)]; exact dd_first f k
  ·exact dd_first f k
theorem trm_one (f:Nat->Pt) (k n:Nat):(dd f k).length<=(trm n (dd f k)).length+1:=by
 match n with
 | 0=>exact Nat.le_succ _
 | n+1=>
  have e:trm (n+1) (dd f k)=if 1<(dd f k).length/\eqPt (gP (dd f k) 0) (lastP (dd f k)) then trm n (dd f k).dropLast else dd f k:=rfl
  rw [e]
  split
  ·rename_i hc
   have hd:(dd f k).dropLast.length=(dd f k).length-1:=List.length_dropLast
   have stop:trm n (dd f k).dropLast=(dd f k).dropLast:=by
    match n with
    | 0=>rfl
    | n+1=>
     have e2:trm (n+1) (dd f k).dropLast=if 1<(dd f k).dropLast.length/\eqPt (gP (dd f k).dropLast 0) (lastP (dd f k).dropLast) then trm n (dd f k).dropLast.dropLast else (dd f k).dropLast:=rfl
     rw [e2,if_neg]
     rintro ⟨h1,h2⟩
     rw [hd] at h1
     rw [gP_drop _ (by omega)] at h2
     have h3:lastP (dd f k).dropLast=gP (dd f k) ((dd f k).length-2):=by
      unfold lastP
      rw [hd,gP_drop _ (by omega)]
      rfl
     rw [h3] at h2
     have h4:=dd_adj f k ((dd f k).length-2) (by omega)
     rw [show (dd f k).length-2+1=(dd f k).length-1 by omega] at h4
     exact h4 ⟨h2.1.symm.trans hc.2.1,h2.2.symm.trans hc.2.2⟩
   rw [stop,hd]
   omega
  ·omega
def to (l:Li) (j:Nat):Pt:=if j+1<l.n then l.f (j+1) else l.f 0
theorem cl_side {l:Li}{j:Nat}(hj:j<l.n) (hc:l.c=true\/j+1<l.n) (hne:¬ eqPt (l.f j) (to l j)) :
  2<=(clean l).length/\∃ t,t<sdN l (clean l).length/\gP (clean l) t=l.f j/\gP (clean l) (if t+1<(clean l).length then t+1 else 0)=to l j:=by
 by_cases c:l.c=true
 ·have eC:clean l=trm (dd l.f l.n).length (dd l.f l.n):=if_pos c
  obtain ⟨p1,p2,p3⟩:=trm_pre (dd l.f l.n).length (dd l.f l.n)
  have p4:=trm_one l.f l.n (dd l.f l.n).length
  have p3:=p3 (Nat.le_refl _)
  rw [<-eC] at p1 p2 p3 p4
  have eN:sdN l (clean l).length=(clean l).length:=by unfold sdN; rw [if_neg (by omega),if_pos c]
  rw [eN]
  obtain ⟨k,hk⟩:∃ k,l.n=k+1:=⟨l.n-1,by omega⟩
  have f0:=dd_first l.f k
  obtain ⟨n0,fl⟩:=dd_last l.f k
  rw [<-hk] at f0 n0 fl
  unfold lastP at fl
  by_cases hj1:j+1<l.n
  ·have et:to l j=l.f (j+1):=if_pos hj1
   rw [et] at hne ⊢
   obtain ⟨i,a,b,d⟩:=dd_has l.f l.n j hj1 hne
   by_cases hi:i+1<(clean l).length
   ·exact ⟨by omega,i,by omega,(p2 i (by omega)).trans b,by rw [if_pos hi]; exact (p2 _ hi).trans d⟩
   ·
    have ei:i+1=(clean l).length:=by omega
    have el:(dd l.f l.n).length-1=i+1:=by omega
    have i0:i≠0:=fun h=>by
     subst h
     have hlen:(dd l.f l.n).length=2:=by omega
     have e1:trm (dd l.f l.n).length (dd l.f l.n)=if 1<(dd l.f l.n).length/\eqPt (gP (dd l.f l.n) 0) (lastP (dd l.f l.n)) then trm 1 (dd l.f l.n).dropLast else dd l.f l.n:=by
      have e2:trm (1+1) (dd l.f l.n)=if 1<(dd l.f l.n).length/\eqPt (gP (dd l.f l.n) 0) (lastP (dd l.f l.n)) then trm 1 (dd l.f l.n).dropLast else dd l.f l.n:=rfl
      rw [<-e2,hlen]
     by_cases hx:1<(dd l.f l.n).length/\eqPt (gP (dd l.f l.n) 0) (lastP (dd l.f l.n))
     ·have h4:=dd_adj l.f l.n 0 (by omega)
      have:=hx.2
      unfold lastP at this
      rw [hlen] at this
      exact h4 this
     ·rw [if_neg hx,<-eC] at e1
      rw [e1] at ei
      omega
    have hgone:eqPt (gP (dd l.f l.n) 0) (gP (dd l.f l.n) (i+1)):=by
     refine Classical.byContradiction fun hx=>?_
     obtain ⟨m,hm⟩:∃ m,(dd l.f l.n).length=m+1:=⟨(dd l.f l.n).length-1,by omega⟩
     have e1:trm (dd l.f l.n).length (dd l.f l.n)=dd l.f l.n:=by
      rw [hm]
      show (if 1<(dd l.f l.n).length/\eqPt (gP (dd l.f l.n) 0) (lastP (dd l.f l.n)) then _ else _)=_
      rw [if_neg]
      rintro ⟨-,h2⟩
      unfold lastP at h2
      rw [el] at h2
      exact hx h2
     rw [<-eC] at e1
     rw [e1] at ei
     omega
    refine ⟨by omega,i,by omega,(p2 i (by omega)).trans b,?_⟩
    rw [if_neg (by omega),p2 0 (by omega),eqPt_eq hgone,d]
  ·have et:to l j=l.f 0:=if_neg hj1
   have ej:j=k:=by omega
   rw [et,ej] at hne ⊢
   have hno:¬ eqPt (gP (dd l.f l.n) 0) (lastP (dd l.f l.n)):=by
    unfold lastP
    rw [f0,fl]
    exact fun h=>hne ⟨h.1.symm,h.2.symm⟩
   have e1:clean l=dd l.f l.n:=by
    rw [eC]
    obtain ⟨m,hm⟩:∃ m,(dd l.f l.n).length=m+1:=⟨(dd l.f l.n).length-1,by omega⟩
    rw [hm]
    show (if 1<(dd l.f l.n).length/\eqPt (gP (dd l.f l.n) 0) (lastP (dd l.f l.n)) then _ else _)=_
    exact if_neg fun h=>hno h.2
   have h2:2<=(dd l.f l.n).length:=by
    refine Nat.not_lt.1 fun hlt=>hno ?_
    unfold lastP
    rw [show (dd l.f l.n).length-1=0 by omega]
    exact ⟨rfl,rfl⟩
   rw [e1]
   exact ⟨h2,(dd l.f l.n).length-1,by omega,fl,by rw [if_neg (by omega)]; exact f0⟩
 ·have eC:clean l=dd l.f l.n:=if_neg c
  have hj1:=hc.resolve_left c
  have et:to l j=l.f (j+1):=if_pos hj1
  rw [et] at hne ⊢
  obtain ⟨i,a,b,d⟩:=dd_has l.f l.n j hj1 hne
  rw [eC]
  have eN:sdN l (dd l.f l.n).length=(dd l.f l.n).length-1:=by unfold sdN; rw [if_neg (by rw [eC]; omega),if_neg c,eC]
  exact ⟨by omega,i,by omega,b,by rw [if_pos a]; exact d⟩
structure OnS (S:Dsh.Sd) (u:Pt):Prop where
 x:∃ x,(S.o<=x/\x<=S.o+S.size)/\u=Dsh.ptAt S x
theorem nr0 {b:Int}(hb:1<=b):nr 0 b=0:=by
 unfold nr
 rw [Int.zero_ediv]
 exact if_neg (by omega)
theorem nr_mul {d b:Int}(hb:1<=b):nr (d*b) b=d:=by
 unfold nr
 rw [Int.mul_ediv_cancel _ (by omega)]
 exact if_neg (by omega)
theorem at_from {S:Dsh.Sd}(h:1<=S.size):Dsh.ptAt S S.o=S.p:=by
 show (⟨S.p.x+nr ((S.q.x-S.p.x)*(S.o-S.o)) S.size,S.p.y+nr ((S.q.y-S.p.y)*(S.o-S.o)) S.size⟩:Pt)=S.p
 rw [Int.sub_self,Int.mul_zero,Int.mul_zero,nr0 h,Int.add_zero,Int.add_zero]
theorem at_to {S:Dsh.Sd}(h:1<=S.size):Dsh.ptAt S (S.o+S.size)=S.q:=by
 show (⟨S.p.x+nr ((S.q.x-S.p.x)*(S.o+S.size-S.o)) S.size,S.p.y+nr ((S.q.y-S.p.y)*(S.o+S.size-S.o)) S.size⟩:Pt)=S.q
 rw [show S.o+S.size-S.o=S.size by omega,nr_mul h,nr_mul h,show S.p.x+(S.q.x-S.p.x)=S.q.x by omega,show S.p.y+(S.q.y-S.p.y)=S.q.y by omega]
theorem on_from {S:Dsh.Sd}(h:1<=S.size):OnS S S.p:=⟨S.o,by omega,(at_from h).symm⟩
theorem on_to {S:Dsh.Sd}(h:1<=S.size):OnS S S.q:=⟨S.o+S.size,by omega,(at_to h).symm⟩
structure Chn (m:Nat) (s:Nat->Dsh.Sd):Prop where
 q:∀ j,j+1<m->(s j).q=(s (j+1)).p
 o:∀ j,j+1<m->(s (j+1)).o=(s j).o+(s j).size
 z:∀ j,j<m->0<=(s j).size
 e:∀ j,j<m->(s j).size=0->(s j).p=(s j).q
theorem Chn.tail {m:Nat}{s:Nat->Dsh.Sd}(h:Chn (m+1) s):Chn m (fun j=>s (j+1)):=
 ⟨fun j hj=>h.q (j+1) (by omega),fun j hj=>h.o (j+1) (by omega),fun j hj=>h.z (j+1) (by omega),fun j hj=>h.e (j+1) (by omega)⟩
def Two (P:Dsh.Sd->Prop) (u v:Pt):Prop:=u=v\/∃ S,P S/\1<=S.size/\OnS S u/\OnS S v
def Prs (P:Dsh.Sd->Prop) (L:List Pt):Prop:=∀ i,i+1<L.length->Two P (Dsi.ptI L i) (Dsi.ptI L (i+1))
theorem ptI_app (L:List Pt) (r:Pt) {i:Nat}(h:i<L.length+1):Dsi.ptI (L++[r]) i=if i<L.length then Dsi.ptI L i else r:=gP_app L r h
theorem prs_app {P:Dsh.Sd->Prop}{L:List Pt}{r:Pt}(h:Prs P L) (h0:L.length≠0) (ht:Two P (Dsi.ptI L (L.length-1)) r):Prs P (L++[r]):=by
 intro i hi
 rw [List.length_append] at hi
 have hi:i+1<L.length+1:=hi
 rw [ptI_app _ _ (by omega),ptI_app _ _ hi,if_pos (by omega)]
 by_cases c:i+1<L.length
 ·rw [if_pos c]; exact h i c
 ·rw [if_neg c,show i=L.length-1 by omega]; exact ht
theorem last_app (L:List Pt) (r:Pt):Dsi.ptI (L++[r]) ((L++[r]).length-1)=r:=by
 rw [List.length_append]
 show Dsi.ptI (L++[r]) (L.length+1-1)=r
 rw [ptI_app _ _ (by omega),if_neg (by omega)]
theorem tk_prs {P:Dsh.Sd->Prop}{a b:Int}(hab:a<b):∀ (m:Nat) (s:Nat->Dsh.Sd) (L:List Pt),Chn m s->(∀ j,j<m->P (s j))->L.length≠0->Prs P L->
  (m≠0->((Dsi.ptI L (L.length-1)=(s 0).p/\a<=(s 0).o/\(s 0).o<=b)\/(Dsi.ptI L (L.length-1)=Dsh.ptAt (s 0) a/\1<=(s 0).size/\(s 0).o<=a/\a<=(s 0).o+(s 0).size)))->Prs P (Dsi.tk s a b m L)/\(Dsi.tk s a b m L).length<=L.length+m
 | 0,s,L,_,_,_,h,_=>⟨h,Nat.le_refl _⟩
 | m+1,s,L,hc,hP,h0,h,hl=>by
  have z:=hc.z 0 (Nat.succ_pos _)
  have ez:=hc.e 0 (Nat.succ_pos _)
  have hp:=hP 0 (Nat.succ_pos _)
  have hl:=hl (Nat.succ_ne_zero _)
  have on:1<=(s 0).size->OnS (s 0) (Dsi.ptI L (L.length-1)):=by
   intro h1
   rcases hl with ⟨e,-,-⟩ | ⟨e,-,h2,h3⟩
   ·rw [e]; exact on_from h1
   ·rw [e]; exact ⟨a,⟨h2,h3⟩,rfl⟩
  have ee:Dsi.tk s a b (m+1) L=if (0<(s 0).size/\(s 0).o<=b)/\b<=(s 0).o+(s 0).size then L++[Dsh.ptAt (s 0) b] else Dsi.tk (fun j=>s (j+1)) a b m (if a<(s 0).o+(s 0).size/\(s 0).o+(s 0).size<b then L++[(s 0).q] else L):=rfl
  rw [ee]
  split
  ·rename_i c
   refine ⟨prs_app h h0 (.inr ⟨s 0,hp,by omega,on (by omega),⟨b,by omega,rfl⟩⟩),?_⟩
   rw [List.length_append]
   show L.length+1<=_
   omega
  ·rename_i c
   have nx:∀ M:List Pt,Dsi.ptI M (M.length-1)=(s 0).q->(m≠0->((Dsi.ptI M (M.length-1)=(s (0+1)).p/\a<=(s (0+1)).o/\(s (0+1)).o<=b)\/(Dsi.ptI M (M.length-1)=Dsh.ptAt (s (0+1)) a/\1<=(s (0+1)).size/\(s (0+1)).o<=a/\a<=(s (0+1)).o+(s (0+1)).size))):=by
    intro M hM hm
    have e1:=hc.o 0 (by omega)
    refine .inl ⟨hM.trans (hc.q 0 (by omega)),?_⟩
    rw [e1]
    rcases hl with ⟨-,h1,h2⟩ | ⟨-,h1,h2,h3⟩<;>omega
   split
   ·rename_i d
    have ht:Two P (Dsi.ptI L (L.length-1)) (s 0).q:=by
     by_cases h1:1<=(s 0).size
     ·exact .inr ⟨s 0,hp,h1,on h1,on_to h1⟩
     ·left
      rcases hl with ⟨e,-,-⟩ | ⟨-,h2,-,-⟩
      ·rw [e]; exact ez (by omega)
      ·omega
    obtain ⟨r1,r2⟩:=tk_prs hab m _ (L++[(s 0).q]) hc.tail (fun j hj=>hP (j+1) (by omega)) (by rw [List.length_append]; exact Nat.succ_ne_zero _) (prs_app h h0 ht) (nx _ (last_app _ _))
    refine ⟨r1,?_⟩
    rw [List.length_append] at r2
    have r2:_<=L.length+1+m:=r2
    omega
   ·rename_i d
    have el:Dsi.ptI L (L.length-1)=(s 0).q:=by
     rcases hl with ⟨e,h1,h2⟩ | ⟨e,h1,h2,h3⟩
     ·rw [e]; exact ez (by omega)
     ·rw [e,show a=(s 0).o+(s 0).size by omega]; exact at_to h1
    obtain ⟨r1,r2⟩:=tk_prs hab m _ L hc.tail (fun j hj=>hP (j+1) (by omega)) h0 h (nx _ el)
    exact ⟨r1,by omega⟩
theorem take_prs {P:Dsh.Sd->Prop}{g:Dsi.TkG}(hc:Chn g.m g.s) (h0:(g.s 0).o<=g.a) (hP:∀ j,j<g.m->P (g.s j)) (hab:g.a<g.b) (hk:g.k<g.m):Prs P g.L/\g.L.length<=g.m+1:=by
 obtain ⟨k1,k2,k3⟩:=Dsi.sk_spec g.a g.m g.s
 have k3:=k3 hk
 have ho:∀ i,i<=Dsi.sk g.s g.a g.m->i<g.m->(g.s i).o<=g.a:=by
  intro i
  induction i with
  | zero=>intro _ _; exact h0
  | succ i ih=>
   intro h1 h2
   rw [hc.o i h2]
   have:=ih (by omega) (by omega)
   rcases k2 i (by omega) with h | h<;>omega
 have hz:=hc.z _ hk
 have ch:Chn (g.m-g.k) (fun j=>g.s (j+g.k)):=⟨fun j hj=>by rw [show j+1+g.k=j+g.k+1 by omega]; exact hc.q _ (by omega),fun j hj=>by rw [show j+1+g.k=j+g.k+1 by omega]; exact hc.o _ (by omega),fun j hj=>hc.z _ (by omega),fun j hj=>hc.e _ (by omega)⟩
 have:=tk_prs (P:=P) hab (g.m-g.k) (fun j=>g.s (j+g.k)) [Dsh.ptAt (g.s g.k) g.a] ch (fun j hj=>hP _ (by omega)) (Nat.succ_ne_zero 0) (fun i hi=>absurd hi (by show ¬ i+1<1; omega)) (fun _=> .inr (by
  show Dsh.ptAt (g.s g.k) g.a=Dsh.ptAt (g.s (0+g.k)) g.a/\_
  rw [Nat.zero_add]
  have h4:=ho _ (Nat.le_refl _) hk
  have hz:0<=(g.s (Dsi.sk g.s g.a g.m)).size:=hz
  exact ⟨rfl,by show 1<=(g.s (Dsi.sk g.s g.a g.m)).size; omega,h4,by show g.a<=(g.s (Dsi.sk g.s g.a g.m)).o+(g.s (Dsi.sk g.s g.a g.m)).size; omega⟩))
 refine ⟨this.1,?_⟩
 have h2:g.L.length<=1+(g.m-g.k):=this.2
 omega
def Evy (Q:Pt->Prop) (L:List Pt):Prop:=∀ i,i<L.length->Q (Dsi.ptI L i)
theorem evy_app {Q:Pt->Prop}{L:List Pt}{r:Pt}(h:Evy Q L) (hr:Q r):Evy Q (L++[r]):=by
 intro i hi
 rw [List.length_append] at hi
 rw [ptI_app _ _ hi]
 split
 ·rename_i c; exact h i c
 ·exact hr
theorem tk_evy {Q:Pt->Prop}{a b:Int}:∀ (m:Nat) (s:Nat->Dsh.Sd) (L:List Pt),(∀ j,j<m->Q (s j).q/\(1<=(s j).size->∀ u,OnS (s j) u->Q u))->Evy Q L->Evy Q (Dsi.tk s a b m L)
 | 0,s,L,_,h=>h
 | m+1,s,L,hP,h=>by
  have ee:Dsi.tk s a b (m+1) L=if (0<(s 0).size/\(s 0).o<=b)/\b<=(s 0).o+(s 0).size then L++[Dsh.ptAt (s 0) b] else Dsi.tk (fun j=>s (j+1)) a b m (if a<(s 0).o+(s 0).size/\(s 0).o+(s 0).size<b then L++[(s 0).q] else L):=rfl
  obtain ⟨p1,p2⟩:=hP 0 (Nat.succ_pos _)
  rw [ee]
  split
  ·rename_i c
   exact evy_app h (p2 (by omega) _ ⟨b,by omega,rfl⟩)
  ·refine tk_evy m _ _ (fun j hj=>hP (j+1) (by omega)) ?_
   split
   ·exact evy_app h p1
   ·exact h
theorem take_evy {Q:Pt->Prop}{g:Dsi.TkG}(hc:Chn g.m g.s) (h0:(g.s 0).o<=g.a) (hP:∀ j,j<g.m->Q (g.s j).q/\(1<=(g.s j).size->∀ u,OnS (g.s j) u->Q u)) (hk:g.k<g.m):Evy Q g.L:=by
 obtain ⟨k1,k2,k3⟩:=Dsi.sk_spec g.a g.m g.s
 have k3:=k3 hk
 have ho:∀ i,i<=Dsi.sk g.s g.a g.m->i<g.m->(g.s i).o<=g.a:=by
  intro i
  induction i with
  | zero=>intro _ _; exact h0
  | succ i ih=>
   intro h1 h2
   rw [hc.o i h2]
   have:=ih (by omega) (by omega)
   rcases k2 i (by omega) with h | h<;>omega
 have hz:=hc.z _ hk
 have h4:=ho _ (Nat.le_refl _) hk
 have hz:0<=(g.s (Dsi.sk g.s g.a g.m)).size:=hz
 refine tk_evy (g.m-g.k) (fun j=>g.s (j+g.k)) [Dsh.ptAt (g.s g.k) g.a] (fun j hj=>hP _ (by omega)) fun i hi=>?_
 have e:i=0:=by
  have hi:i<1:=hi
  omega
 subst e
 exact (hP _ hk).2 (by show 1<=(g.s (Dsi.sk g.s g.a g.m)).size; omega) _ ⟨g.a,⟨h4,by show g.a<=(g.s (Dsi.sk g.s g.a g.m)).o+(g.s (Dsi.sk g.s g.a g.m)).size; omega⟩,rfl⟩
end Go.Proofs.YtmhofgchidojoaaGreat.Tdq
set_option linter.unusedSimpArgs false
set_option linter.unusedVariables false
namespace Go.Proofs.YtmhofgchidojoaaGreat.Tdr
open Go.RowKit Sx Num Aff Con Rga Rgl Rgm Rgn Fla Fle Flp Flf Flg Flu Sta Stb Stc Sto Ste Stl Stm Stv Str Tdg Tdp Tdq
set_option maxRecDepth 100000
def df (S:Dsh.Sd):Pt:=subP S.q S.p
theorem on_On {S:Dsh.Sd}{u:Pt}(h1:1<=S.size) (h:OnS S u):On S.p (df S) u S.size:=by
 obtain ⟨x,⟨x0,x1⟩,rfl⟩:=h.x
 refine ⟨h1,x-S.o,by omega,?_,?_⟩
 ·have e:=nr_err ((S.q.x-S.p.x)*(x-S.o)) h1
  show -S.size<=2*(S.size*(S.p.x+nr ((S.q.x-S.p.x)*(x-S.o)) S.size-S.p.x)-(x-S.o)*(S.q.x-S.p.x))/\2*(S.size*(S.p.x+nr ((S.q.x-S.p.x)*(x-S.o)) S.size-S.p.x)-(x-S.o)*(S.q.x-S.p.x))<=S.size
  generalize nr ((S.q.x-S.p.x)*(x-S.o)) S.size=r at *
  have e2:S.size*(S.p.x+r-S.p.x)-(x-S.o)*(S.q.x-S.p.x)=r*S.size-(S.q.x-S.p.x)*(x-S.o):=by grind
  rw [e2]; exact e
 ·have e:=nr_err ((S.q.y-S.p.y)*(x-S.o)) h1
  show -S.size<=2*(S.size*(S.p.y+nr ((S.q.y-S.p.y)*(x-S.o)) S.size-S.p.y)-(x-S.o)*(S.q.y-S.p.y))/\2*(S.size*(S.p.y+nr ((S.q.y-S.p.y)*(x-S.o)) S.size-S.p.y)-(x-S.o)*(S.q.y-S.p.y))<=S.size
  generalize nr ((S.q.y-S.p.y)*(x-S.o)) S.size=r at *
  have e2:S.size*(S.p.y+r-S.p.y)-(x-S.o)*(S.q.y-S.p.y)=r*S.size-(S.q.y-S.p.y)*(x-S.o):=by grind
  rw [e2]; exact e
theorem on_small {S:Dsh.Sd}{u:Pt}(h1:1<=S.size) (hp:small 80 S.p) (hq:small 80 S.q) (h:OnS S u):small 81 u:=by
 obtain ⟨-,t,⟨t0,t1⟩,⟨a1,a2⟩,b1,b2⟩:=on_On h1 h
 obtain ⟨⟨p1,p2⟩,p3,p4⟩:=hp
 obtain ⟨⟨q1,q2⟩,q3,q4⟩:=hq
 have one:∀ p q v:Int,-80<=p->p<=80-> -80<=q->q<=80-> -S.size<=2*(S.size*(v-p)-t*(q-p))->2*(S.size*(v-p)-t*(q-p))<=S.size-> -81<=v/\v<=81:=by
  intro p q v h1 h2 h3 h4 h5 h6
  have e:S.size*(v-p)-t*(q-p)=S.size*v-((S.size-t)*p+t*q):=by grind
  rw [e] at h5 h6
  have m1:(S.size-t)*p<=(S.size-t)*80:=Int.mul_le_mul_of_nonneg_left h2 (by omega)
  have m2:(S.size-t) * -80<=(S.size-t)*p:=Int.mul_le_mul_of_nonneg_left h1 (by omega)
  have m3:t*q<=t*80:=Int.mul_le_mul_of_nonneg_left h4 t0
  have m4:t * -80<=t*q:=Int.mul_le_mul_of_nonneg_left h3 t0
  have k1:S.size*v<=S.size*81:=by grind
  have k2:S.size * -81<=S.size*v:=by grind
  exact ⟨Int.le_of_mul_le_mul_left (a:=S.size) (by omega) (by omega),Int.le_of_mul_le_mul_left (a:=S.size) (by omega) (by omega)⟩
 exact ⟨one _ _ _ p1 p2 q1 q2 a1 a2,one _ _ _ p3 p4 q3 q4 b1 b2⟩
theorem sz_sq (a b:Int):(sizeI a+sizeI b)*(sizeI a+sizeI b)<=2*(a*a+b*b):=by
 have aA:sizeI a*sizeI a=a*a:=by unfold sizeI; split<;>grind
 have aB:sizeI b*sizeI b=b*b:=by unfold sizeI; split<;>grind
 have:=sqn (sizeI a-sizeI b)
 grind
theorem nv_d2 {w:Int}{D:Pt}(hd:D.x≠0\/D.y≠0):4*(dotP D (nv w D)*dotP D (nv w D))<=2*dotP D D:=by
 have h:=nv_dot (w:=w) hd
 have e:dotP D (nv w D)=(nv w D).x*D.x+(nv w D).y*D.y:=by unfold dotP; grind
 have e2:dotP D D=D.x*D.x+D.y*D.y:=rfl
 have h2:=sz_sq D.x D.y
 rw [<-e] at h
 have h3:=sq_up (a:=2*dotP D (nv w D)) (b:=sizeI D.x+sizeI D.y) h
 grind
theorem len_sq {D:Pt}(hd:D.x≠0\/D.y≠0):1024<=lenD D/\lenD D*lenD D<=1048576*dotP D D/\1048576*dotP D D<=(lenD D+1)*(lenD D+1):=by
 have hl:=len_pos hd
 have lx:=len_x D
 have ly:=len_y D
 have hdd:0<=dotP D D:=by unfold dotP; have:=sqn D.x; have:=sqn D.y; omega
 have hs:=isq_spec (1048576*dotP D D).toNat
 have eD:(((1048576*dotP D D).toNat:Nat):Int)=1048576*dotP D D:=by omega
 have eL:lenD D=((isq (1048576*dotP D D).toNat:Nat):Int):=rfl
 refine ⟨by omega,?_,?_⟩
 ·rw [<-eD,eL,<-Int.natCast_mul]
  exact Int.ofNat_le.2 hs.1
 ·rw [<-eD,eL,show ((isq (1048576*dotP D D).toNat:Nat):Int)+1=((isq (1048576*dotP D D).toNat+1:Nat):Int) from rfl,<-Int.natCast_mul]
  exact Int.ofNat_le.2 (Nat.le_of_lt hs.2)
theorem dot_pos {D:Pt}(hd:D.x≠0\/D.y≠0):0<dotP D D:=by
 obtain ⟨h1,h2,-⟩:=len_sq hd
 have:=Int.mul_le_mul h1 h1 (by omega) (by omega)
 omega
theorem lS_le {l S N:Int}(h2:l*l<=1048576*N) (s2:S*S<=2*N) (hN:0<=N):l*S<=1449*N:=by
 have k1:S*S*(l*l)<=S*S*(1048576*N):=Int.mul_le_mul_of_nonneg_left h2 (sqn _)
 have k2:N*(S*S)<=N*(2*N):=Int.mul_le_mul_of_nonneg_left s2 hN
 have k3:=sqn N
 exact (sq_le' (a:=l*S) (b:=1449*N) (by omega) (by grind)).2
theorem nv_pos {w:Int}{D:Pt}(hw:8<=w) (hd:D.x≠0\/D.y≠0):0<crP D (nv w D):=by
 obtain ⟨h1,h2,-⟩:=len_sq hd
 have hp:=dot_pos hd
 have hl:1<=lenD D:=by omega
 have e1:=nr_err (512*w*(0-D.y)) hl
 have e2:=nr_err (512*w*D.x) hl
 show 0<D.x*nr (512*w*D.x) (lenD D)-D.y*nr (512*w*(0-D.y)) (lenD D)
 have s2:=sz_sq D.x D.y
 have eN:dotP D D=D.x*D.x+D.y*D.y:=rfl
 generalize dotP D D=N at *
 generalize lenD D=l at *
 generalize nr (512*w*(0-D.y)) l=a at *
 generalize nr (512*w*D.x) l=b at *
 have m1:=mul_size (x:=D.y) (e:=2*(a*l-512*w*(0-D.y))) (l:=l) e1
 have m2:=mul_size (x:=D.x) (e:=2*(b*l-512*w*D.x)) (l:=l) e2
 have z1:=(size_in D.x).2
 have z2:=(size_in D.y).2
 generalize hS:sizeI D.x+sizeI D.y=S at *
 have lS:=lS_le (S:=S) h2 (by omega) (by omega)
 have key:l*(2*(D.x*b-D.y*a))=2*(b*l-512*w*D.x)*D.x-2*(a*l-512*w*(0-D.y))*D.y+1024*(w*N):=by rw [eN]; grind
 have eS:l*S=l*sizeI D.x+l*sizeI D.y:=by rw [<-hS]; exact Int.mul_add _ _ _
 have wN:8*N<=w*N:=Int.mul_le_mul_of_nonneg_right hw (by omega)
 have fin:0<l*(2*(D.x*b-D.y*a)):=by omega
 refine Int.not_le.1 fun hc=>?_
 have h9:=Int.mul_nonneg (a:=l) (b:= -(2*(D.x*b-D.y*a))) (by omega) (by omega)
 rw [Int.mul_neg] at h9
 omega
theorem nv_nor {w:Int}{D:Pt}(hw:8<=w/\w<=60) (hd:D.x≠0\/D.y≠0):Nor w D (nv w D):=
 ⟨nv_pos hw.1 hd,nv_d2 hd,(nv_nrm (by omega) hd).lo⟩
theorem nv_eight {D:Pt}(hd:D.x≠0\/D.y≠0):11<=dotP (nv 8 D) (nv 8 D)/\dotP (nv 8 D) (nv 8 D)<=22:=by
 obtain ⟨h1,h2⟩:=nv_nrm (w:=8) (by omega) hd
 have e:dotP (nv 8 D) (nv 8 D)=(nv 8 D).x*(nv 8 D).x+(nv 8 D).y*(nv 8 D).y:=rfl
 omega
theorem nv_small {w:Int}{D:Pt}(hw:0<=w/\w<=60) (hd:D.x≠0\/D.y≠0):small 30 (nv w D):=by
 have hl:=len_pos hd
 have lx:=len_x D
 have ly:=len_y D
 exact ⟨half30 hw hl (by omega),half30 hw hl (by omega)⟩
theorem cor_at {A D n:Pt}{T:Nat->Pt}(h:Cor A D n T) {j:Nat}(hj:j<4):∃ k σ:Int,(k=0\/k=1)/\(σ=1\/σ = -1)/\T j=⟨A.x+k*D.x+σ*n.x,A.y+k*D.y+σ*n.y⟩:=by
 have e:∀ P:Pt,∀ k σ:Int,P.x=A.x+k*D.x+σ*n.x->P.y=A.y+k*D.y+σ*n.y->P=⟨A.x+k*D.x+σ*n.x,A.y+k*D.y+σ*n.y⟩:=by
  rintro ⟨a,b⟩ k σ h1 h2
  have h1:a=A.x+k*D.x+σ*n.x:=h1
  have h2:b=A.y+k*D.y+σ*n.y:=h2
  rw [h1,h2]
 rcases h with ⟨e0,e1,e2,e3⟩ | ⟨e0,e1,e2,e3⟩
 ·match j,hj with
  | 0,_=>exact ⟨0,1,.inl rfl,.inl rfl,e _ _ _ (by rw [e0]; grind) (by rw [e0]; grind)⟩
  | 1,_=>exact ⟨1,1,.inr rfl,.inl rfl,e _ _ _ (by rw [e1]; grind) (by rw [e1]; grind)⟩
  | 2,_=>exact ⟨1,-1,.inr rfl,.inr rfl,e _ _ _ (by rw [e2]; grind) (by rw [e2]; grind)⟩
  | 3,_=>exact ⟨0,-1,.inl rfl,.inr rfl,e _ _ _ (by rw [e3]; grind) (by rw [e3]; grind)⟩
 ·match j,hj with
  | 3,_=>exact ⟨0,1,.inl rfl,.inl rfl,e _ _ _ (by rw [e0]; grind) (by rw [e0]; grind)⟩
  | 2,_=>exact ⟨1,1,.inr rfl,.inl rfl,e _ _ _ (by rw [e1]; grind) (by rw [e1]; grind)⟩
  | 1,_=>exact ⟨1,-1,.inr rfl,.inr rfl,e _ _ _ (by rw [e2]; grind) (by rw [e2]; grind)⟩
  | 0,_=>exact ⟨0,-1,.inl rfl,.inr rfl,e _ _ _ (by rw [e3]; grind) (by rw [e3]; grind)⟩
theorem ne_df {a b:Pt}(h:a≠b):(subP b a).x≠0\/(subP b a).y≠0:=by
 refine Classical.byContradiction fun hc=>h ?_
 have h1:b.x-a.x=0:=Classical.not_not.1 fun h=>hc (.inl h)
 have h2:b.y-a.y=0:=Classical.not_not.1 fun h=>hc (.inr h)
 exact eqPt_eq ⟨by omega,by omega⟩
theorem part_sup {w:Int}(hw:8<=w/\w<=60) {S:Dsh.Sd}(h1:1<=S.size) {a b:Pt}(ha:OnS S a) (hb:OnS S b) (hne:a≠b) {T:Nat->Pt}(hT:Cor a (subP b a) (nv w (subP b a)) T) {y x:Int}(h:w4 T y x≠0):Sup w S.p (df S) S.size y x:=by
 refine ⟨fun u=>?_⟩
 obtain ⟨j,hj,hg⟩:=hull h u
 obtain ⟨k,σ,hk,hs,eT⟩:=cor_at hT hj
 have hd:=ne_df hne
 have hN:=(nv_nrm (w:=w) (by omega) hd).hi
 generalize nv w (subP b a)=n at *
 have hc:=cauchy u n
 have uu:0<=dotP u u:=by unfold dotP; have:=sqn u.x; have:=sqn u.y; omega
 have hn2:dotP n n=n.x*n.x+n.y*n.y:=rfl
 rw [<-hn2] at hN
 have ss:σ*σ=1:=by rcases hs with rfl | rfl<;>rfl
 refine ⟨if k=0 then a else b,2*(σ*dotP u n),?_,?_,?_⟩
 ·split
  ·exact on_On h1 ha
  ·exact on_On h1 hb
 ·rw [eT] at hg
  rcases hk with rfl | rfl
  ·rw [if_pos rfl]
   unfold gtP dotP at *
   grind
  ·rw [if_neg (by decide)]
   unfold gtP dotP subP at *
   grind
 ·have e:2*(σ*dotP u n)*(2*(σ*dotP u n))=σ*σ*(4*(dotP u n*dotP u n)):=by grind
  rw [e,ss]
  have h5:dotP u u*(100*(40000*dotP n n))<=dotP u u*((1000*w+1475)*(1000*w+1475)):=Int.mul_le_mul_of_nonneg_left (by grind) uu
  grind
theorem disc_sup {w:Int}(hw:8<=w) {S:Dsh.Sd}(h1:1<=S.size) {v:Pt}(hv:OnS S v) {y x:Int}(h:dotP (mid v y x) (mid v y x)<=w*w):Sup w S.p (df S) S.size y x:=by
 refine ⟨fun u=>⟨v,dotP u (mid v y x),on_On h1 hv,Int.le_refl _,?_⟩⟩
 have hc:=cauchy u (mid v y x)
 have uu:0<=dotP u u:=by unfold dotP; have:=sqn u.x; have:=sqn u.y; omega
 have h5:dotP u u*dotP (mid v y x) (mid v y x)<=dotP u u*(w*w):=Int.mul_le_mul_of_nonneg_left h uu
 have h6:dotP u u*(1000000*(w*w))<=dotP u u*((1000*w+1475)*(1000*w+1475)):=Int.mul_le_mul_of_nonneg_left (by grind) uu
 grind
theorem hull_box {T:Nat->Pt}{M y x:Int}(hT:∀ j,j<4->small M (T j)) (h:w4 T y x≠0):(-M<=y/\y<M)/\ -M<=x/\x<M:=by
 have k:∀ u:Pt,∃ p:Pt,small M p/\gtP u p y x<=0:=fun u=>by
  obtain ⟨j,hj,h⟩:=hull h u
  exact ⟨T j,hT j hj,h⟩
 obtain ⟨p1,s1,g1⟩:=k ⟨1,0⟩
 obtain ⟨p2,s2,g2⟩:=k ⟨-1,0⟩
 obtain ⟨p3,s3,g3⟩:=k ⟨0,1⟩
 obtain ⟨p4,s4,g4⟩:=k ⟨0,-1⟩
 unfold small at *
 unfold gtP at *
 simp only [Int.one_mul,Int.zero_mul,Int.neg_mul] at g1 g2 g3 g4
 omega
theorem disc_box {c:Pt}{w M y x:Int}(hw:0<=w/\w<=60) (hc:small M c) (h:dotP (mid c y x) (mid c y x)<=w*w):(-(M+31)<=y/\y<M+31)/\ -(M+31)<=x/\x<M+31:=by
 have e:dotP (mid c y x) (mid c y x)=(2*x+1-2*c.x)*(2*x+1-2*c.x)+(2*y+1-2*c.y)*(2*y+1-2*c.y):=rfl
 rw [e] at h
 have a:=sqn (2*x+1-2*c.x)
 have b:=sqn (2*y+1-2*c.y)
 have h1:=sq_le' (a:=2*x+1-2*c.x) (b:=w) hw.1 (by omega)
 have h2:=sq_le' (a:=2*y+1-2*c.y) (b:=w) hw.1 (by omega)
 unfold small at hc
 omega
theorem cor_small {A D n:Pt}{T:Nat->Pt}{M:Int}(h:Cor A D n T) (hA:small M A) (hB:small M ⟨A.x+D.x,A.y+D.y⟩) (hn:small 30 n) {j:Nat}(hj:j<4):small (M+30) (T j):=by
 obtain ⟨k,σ,hk,hs,eT⟩:=cor_at h hj
 rw [eT]
 unfold small at *
 rcases hk with rfl | rfl<;>rcases hs with rfl | rfl<;>(show (-(M+30)<=A.x+_*D.x+_*n.x/\_)/\_; simp only [] at *; omega)
def sty (w cap:Int):Sty:=⟨w,cap,1,16⟩
theorem sdA_mk (w:Int) (l:Li) (t:Nat):(sdA w l t).p=gP (clean l) t/\(sdA w l t).d=subP (gP (clean l) (if t+1<(clean l).length then t+1 else 0)) (gP (clean l) t)/\(sdA w l t).n=nv w (subP (gP (clean l) (if t+1<(clean l).length then t+1 else 0)) (gP (clean l) t)):=by rw [sdA_eq]; exact ⟨rfl,rfl,rfl⟩
theorem inn_mem {w:Int}(hw:8<=w/\w<=30) {l:Li}(hs:∀ i,i<l.n->small 81 (l.f i)) {t:Nat}(h2:2<=(clean l).length) (ht:t<sdN l (clean l).length) {A B:Pt}(eA:gP (clean l) t=A) (eB:gP (clean l) (if t+1<(clean l).length then t+1 else 0)=B) (hne:A≠B) {y x:Int}
  (h:Inn w A (subP B A) (nv w (subP B A)) y x):mem (lineR (sty w 1) l) y x=true:=by
 have tl:t<(clean l).length:=by
  unfold sdN at ht
  split at ht
  ·omega
  ·split at ht<;>omega
 have cs:∀ i,i<(clean l).length->small 81 (gP (clean l) i):=fun i hi=>by
  obtain ⟨j,hj,e⟩:=cl_mem l i hi
  rw [e]; exact hs j hj
 have disc:∀ i,i<(clean l).length->dotP (mid (gP (clean l) i) y x) (mid (gP (clean l) i) y x)<=w*w->mem (lineR (sty w 1) l) y x=true:=fun i hi hd=>by
  obtain ⟨k,hk,e⟩:=out_d1 (s:=sty w 1) rfl rfl h2 hi
  refine (line_mem _ _ _ _).2 (.inr ⟨k,hk,?_⟩)
  rw [e]
  exact (disc_mem (sm_le (cs i hi) (by decide)) (by show 2<=w/\w<=60; omega) y x).2 hd
 have eBB:(⟨A.x+(subP B A).x,A.y+(subP B A).y⟩:Pt)=B:=eqPt_eq ⟨by show A.x+(B.x-A.x)=B.x; omega,by show A.y+(B.y-A.y)=B.y; omega⟩
 rcases h with h | h | ⟨⟨p1,p2⟩,q1,q2⟩
 ·exact disc t tl (by rw [eA]; exact h)
 ·rw [eBB] at h
  refine disc (if t+1<(clean l).length then t+1 else 0) (by split<;>omega) (by rw [eB]; exact h)
 ·obtain ⟨o1,o2⟩:=out_parts (s:=sty w 1) (l:=l) rfl (.inr rfl) h2
  obtain ⟨o3,o4⟩:=o2 t ht
  obtain ⟨a1,a2,a3⟩:=sdA_mk w l t
  have o4:Cor (sdA w l t).p (sdA w l t).d (sdA w l t).n ((outX (sty w 1) l).p t):=o4
  rw [a1,a2,a3,eA,eB] at o4
  have hw4:=par_in o4 p1 p2 q1 q2
  refine (line_mem _ _ _ _).2 (.inl ⟨t,by omega,(part_mem o3 y x).2 ⟨?_,hw4⟩⟩)
  have sA:small 81 A:=by rw [<-eA]; exact cs t tl
  have sB:small 81 B:=by rw [<-eB]; exact cs _ (by split<;>omega)
  have:=hull_box (M:=81+30) (fun j hj=>cor_small o4 sA (by rw [eBB]; exact sB) (nv_small (by omega) (ne_df hne)) hj) hw4
  omega
theorem line_box {w cap:Int}(hw:8<=w/\w<=30) (hcap:cap=0\/cap=1) {l:Li}(hn:l.n<=8) (hs:∀ i,i<l.n->small 81 (l.f i)) {y x:Int}(h:mem (lineR (sty w cap) l) y x=true) (h2:2<=(clean l).length\/cap=0):(-112<=y/\y<112)/\ -112<=x/\x<112:=by
 have cs:∀ i,i<(clean l).length->small 81 (gP (clean l) i):=fun i hi=>by
  obtain ⟨j,hj,e⟩:=cl_mem l i hi
  rw [e]; exact hs j hj
 rcases (line_mem _ _ _ _).1 h with ⟨t,ht,hm⟩ | ⟨t,ht,hm⟩
 ·by_cases c2:2<=(clean l).length
  ·obtain ⟨o1,o2⟩:=out_parts (s:=sty w cap) (l:=l) rfl hcap c2
   obtain ⟨o3,o4⟩:=o2 t (by omega)
   obtain ⟨a1,a2,a3⟩:=sdA_mk w l t
   have o4:Cor (sdA w l t).p (sdA w l t).d (sdA w l t).n ((outX (sty w cap) l).p t):=o4
   rw [a1,a2,a3] at o4
   have tl:t<(clean l).length:=by
    rw [o1] at ht
    unfold sdN at ht
    split at ht
    ·omega
    ·split at ht<;>omega
   have tt:=sd_ends (l:=l) (k:=t) ⟨Nat.le_trans hn (by decide),fun i hi=>sm_le (hs i hi) (by decide)⟩ c2 (by omega)
   have nd:(subP (gP (clean l) (if t+1<(clean l).length then t+1 else 0)) (gP (clean l) t)).x≠0\/(subP (gP (clean l) (if t+1<(clean l).length then t+1 else 0)) (gP (clean l) t)).y≠0:=ne_df fun e=>tt.2.2 (by rw [e]; exact ⟨rfl,rfl⟩)
   have hw4:=((part_mem o3 y x).1 hm).2
   have:=hull_box (M:=81+30) (fun j hj=>cor_small o4 (cs t tl) (by
    have:(⟨(gP (clean l) t).x+(subP (gP (clean l) (if t+1<(clean l).length then t+1 else 0)) (gP (clean l) t)).x,(gP (clean l) t).y+(subP (gP (clean l) (if t+1<(clean l).length then t+1 else 0)) (gP (clean l) t)).y⟩:Pt)=gP (clean l) (if t+1<(clean l).length then t+1 else 0):=eqPt_eq ⟨by show _+(_-_)=_; omega,by show _+(_-_)=_; omega⟩
    rw [this]
    exact cs _ (by split<;>omega)) (nv_small (by omega) nd) hj) hw4
   omega
  ·have:=(out_dot (s:=sty w cap) (l:=l) (h2.resolve_left c2) (by omega)).1
   omega
 ·have c2:2<=(clean l).length:=by
   rcases h2 with h2 | h2
   ·exact h2
   ·refine Nat.not_lt.1 fun hc=>?_
    have:=(out_dot (s:=sty w cap) (l:=l) h2 hc).2
    omega
  have sd:small 81 ((outX (sty w cap) l).d t):=by
   obtain ⟨i,hi,e⟩:=out_dc (s:=sty w cap) (l:=l) rfl hcap c2 ht
   rw [e]; exact cs i hi
  have:=disc_box (M:=81) (w:=w) (by omega) sd ((disc_mem (sm_le sd (by decide)) (by show 2<=w/\w<=60; omega) y x).1 hm)
  omega
end Go.Proofs.YtmhofgchidojoaaGreat.Tdr
set_option linter.unusedSimpArgs false
set_option linter.unusedVariables false
namespace Go.Proofs.YtmhofgchidojoaaGreat.Rgh
open Go.RowKit Sx Num Aff Con Rga Rgl Rgm Rgn Rgb Rgc Rgf Rgg
set_option maxRecDepth 100000
structure PoG where
 n:Nat
 f:Nat->Pt
def ptR (p:Pt):Rn:=⟨p.y,p.x,p.x+1⟩
def okPt (p:Pt):Prop:=(-8192<=p.x/\p.x<8192)/\ -8192<=p.y/\p.y<8192
theorem okR_pt {p:Pt}(h:okPt p):okR (ptR p):=by
 obtain ⟨⟨h1,h2⟩,h3,h4⟩:=h
 refine ⟨⟨⟨h3,h4⟩,⟨h1,?_⟩,?_,?_⟩,?_⟩
 ·show p.x<=8192; omega
 ·show -8192<=p.x+1; omega
 ·show p.x+1<=8192; omega
 ·show p.x<p.x+1; omega
def PoG.r (g:PoG):Rg:=⟨g.n,fun i=>ptR (g.f i)⟩
structure NrG where
 g:Rg
 m:Int
def NrG.x (h:NrG) (i:Nat):Int:=cutI (h.g.f i).x0 (-h.m) h.m
def NrG.y (h:NrG) (i:Nat):Int:=cutI (h.g.f i).y (-h.m) h.m
def NrG.w (h:NrG) (i:Nat):Int:=cutI (h.g.f i).x1 1 12
def NrG.pt (h:NrG) (i k:Nat):Pt:=⟨if h.x i+k<h.m then h.x i+k else h.m,h.y i⟩
def NrG.in' (h:NrG) (i k:Nat):List Pt:=(List.range k).map (h.pt i)
def NrG.L (h:NrG):Nat->List Pt
 | 0=>[]
 | i+1=>h.L i++h.in' i (h.w i).toNat
def pI (L:List Pt) (k:Nat):Pt:=L.getD k ⟨0,0⟩
def NrG.ok (h:NrG):Prop:=(1<=h.m/\h.m<=1000)/\h.g.n<=9223372036854775807
def NrG.o (h:NrG):PoG:=⟨(h.L (min h.g.n 30)).length,pI (h.L (min h.g.n 30))⟩
theorem cutI_b (x:Int) {lo hi:Int}(h:lo<=hi):lo<=cutI x lo hi/\cutI x lo hi<=hi:=cutI_range x lo hi h
theorem pI_mem {L:List Pt}{i:Nat}(h:i<L.length):pI L i∈L:=by
 unfold pI
 rw [List.getD_eq_getElem?_getD,List.getElem?_eq_getElem h]
 exact List.getElem_mem _
theorem NrG.L_ok (h:NrG) (hm:1<=h.m):∀ i:Nat,∀ p∈h.L i,(-h.m<=p.x/\p.x<=h.m)/\ -h.m<=p.y/\p.y<=h.m
 | 0,p,hp=>(List.not_mem_nil hp).elim
 | i+1,p,hp=>by
  rcases List.mem_append.1 (show p∈h.L i++h.in' i (h.w i).toNat from hp) with hp | hp
  ·exact h.L_ok hm i p hp
  ·obtain ⟨k,_,rfl⟩:=List.mem_map.1 hp
   have hx : -h.m<=h.x i/\h.x i<=h.m:=cutI_b (h.g.f i).x0 (by omega)
   have hy : -h.m<=h.y i/\h.y i<=h.m:=cutI_b (h.g.f i).y (by omega)
   refine ⟨?_,hy⟩
   show -h.m<=(if h.x i+k<h.m then h.x i+k else h.m)/\(if h.x i+k<h.m then h.x i+k else h.m)<=h.m
   split<;>omega
end Go.Proofs.YtmhofgchidojoaaGreat.Rgh
set_option linter.unusedSimpArgs false
set_option linter.unusedVariables false
namespace Go.Proofs.YtmhofgchidojoaaGreat.Rgo
open Rga Rgl Rgm Rgn Rgb Rgf Rgg Rgh
theorem jo_run {f:Nat->Rn}{n:Nat}(ok:∀ k,k<n->okR (f k)) (srt:∀ j k,j<k->k<n->le0 (f j) (f k)):∀ i,i<=n->∃ L,JoP f n i L
 | 0,_=>⟨[],jo_start f n⟩
 | i+1,h=>by
  obtain ⟨L,P⟩:=jo_run ok srt i (by omega)
  exact ⟨_,jo_step ok srt P h⟩
theorem jo_mem {g:Rg}(hok:∀ i,i<g.n->okR (g.f i)) (y x:Int):mem (joOut g) y x=mem g.L y x:=by
 have hmem:∀ k,k<g.n->rI (srt g) k∈srt g:=fun k hk=>by
  unfold rI
  rw [List.getD_eq_getElem?_getD,List.getElem?_eq_getElem (by rw [srt_len]; exact hk)]
  exact List.getElem_mem _
 have oks:∀ k,k<g.n->okR (rI (srt g) k):=fun k hk=>by
  obtain ⟨j,hj,e⟩:=List.mem_map.1 ((srt_perm g).mem_iff.1 (hmem k hk))
  rw [<-e]
  exact hok j (List.mem_range.1 hj)
 have srt':∀ j k,j<k->k<g.n->le0 (rI (srt g) j) (rI (srt g) k):=fun j k hjk hk=>by
  have h:=srt_sorted g hjk hk
  rw [lt_iff'] at h
  obtain ⟨⟨⟨a1,a2⟩,⟨a3,a4⟩,_⟩,_⟩:=oks j (by omega)
  obtain ⟨⟨⟨b1,b2⟩,⟨b3,b4⟩,_⟩,_⟩:=oks k hk
  rw [cl_ok a1 (by omega),cl_ok a3 a4,cl_ok b1 (by omega),cl_ok b3 b4] at h
  unfold le0
  omega
 obtain ⟨L,P⟩:=jo_run oks srt' g.n (Nat.le_refl _)
 have es:Lf (rI (srt g)) g.n=srt g:=by rw [<-srt_len g]; exact Lf_rI _
 have e:∀ y x,mem L y x=mem g.L y x:=fun y x=>by rw [P.hm,es]; exact mem_congr (fun r=>(srt_perm g).mem_iff) y x
 rw [show joOut g=L from ofSet_eq P.hL e]
 exact e y x
noncomputable def nr (m:Int) (g:Rg):List Rn:=joOut (NrG.o ⟨g,m⟩).r
theorem nr_vld (m:Int) (g:Rg):vld (nr m g):=ofSet_vld _
theorem nr_in {m:Int}(hm:1<=m/\m<=1000) {g:Rg}{r:Rn}(hr:r∈nr m g):(-m<=r.y/\r.y<=m)/\ -m<=r.x0/\r.x1<=m+1:=by
 have hok:∀ i,i<(NrG.o ⟨g,m⟩).r.n->okR ((NrG.o ⟨g,m⟩).r.f i):=fun i hi=>by
  have h:=NrG.L_ok ⟨g,m⟩ hm.1 (min g.n 30) _ (pI_mem hi)
  refine okR_pt ?_
  have h:(-m<=((NrG.o ⟨g,m⟩).f i).x/\((NrG.o ⟨g,m⟩).f i).x<=m)/\ -m<=((NrG.o ⟨g,m⟩).f i).y/\((NrG.o ⟨g,m⟩).f i).y<=m:=h
  unfold okPt
  omega
 have cell:∀ y x,mem (nr m g) y x=true->(-m<=y/\y<=m)/\ -m<=x/\x<=m:=fun y x h=>by
  rw [show nr m g=joOut (NrG.o ⟨g,m⟩).r from rfl,jo_mem hok,mem_g] at h
  obtain ⟨i,hi,e1,e2,e3⟩:=h
  have h:=NrG.L_ok ⟨g,m⟩ hm.1 (min g.n 30) _ (pI_mem hi)
  have h:(-m<=((NrG.o ⟨g,m⟩).f i).x/\((NrG.o ⟨g,m⟩).f i).x<=m)/\ -m<=((NrG.o ⟨g,m⟩).f i).y/\((NrG.o ⟨g,m⟩).f i).y<=m:=h
  have e1:((NrG.o ⟨g,m⟩).f i).y=y:=e1
  have e2:((NrG.o ⟨g,m⟩).f i).x<=x:=e2
  have e3:x<((NrG.o ⟨g,m⟩).f i).x+1:=e3
  omega
 have ok:=(nr_vld m g).1 r hr
 have h1:=cell r.y r.x0 ((mem_iff _ _ _).2 ⟨r,hr,rfl,Int.le_refl _,ok.2⟩)
 have h2:=cell r.y (r.x1-1) ((mem_iff _ _ _).2 ⟨r,hr,rfl,by have:=ok.2; omega,by omega⟩)
 omega
end Go.Proofs.YtmhofgchidojoaaGreat.Rgo
set_option linter.unusedSimpArgs false
set_option linter.unusedVariables false
namespace Go.Proofs.YtmhofgchidojoaaGreat.Dil
open Go.RowKit Sx Num Aff Con Rga Rgl Rgm Rgn Rgb Rgo
set_option maxRecDepth 100000
structure DiG where
 g:Rg
 w:Nat
def wid (w:Nat) (r:Rn):Rn:=⟨r.y,r.x0-w,r.x1+w⟩
structure Boxed (g:Rg):Prop where
 v:vld g.L
 b:∀ i,i<g.n->(-1000<=(g.f i).y/\(g.f i).y<=1000)/\ -1000<=(g.f i).x0/\(g.f i).x1<=1000
def DiG.W (h:DiG):Nat->List Rn
 | 0=>[]
 | i+1=>addR (h.W i) (wid h.w (h.g.f i))
structure DiG.Ok (h:DiG):Prop where
 g:Boxed h.g
 w:h.w<=64
def DiG.q (h:DiG):Nat:=2*h.w+1
def DiG.V (h:DiG):List Rn:=h.W h.g.n
def DiG.R (h:DiG) (k:Nat):Rn:=⟨(rI h.V (k / h.q)).y-h.w+((k % h.q:Nat):Int),(rI h.V (k / h.q)).x0,(rI h.V (k / h.q)).x1⟩
noncomputable def DiG.o (h:DiG):List Rn:=Rgg.joOut ⟨h.V.length*h.q,h.R⟩
theorem DiG.jo {h:DiG}(hh:h.Ok):∀ i,i<=h.g.n->JoP (fun k=>wid h.w (h.g.f k)) h.g.n i (h.W i)
 | 0,_=>jo_start _ _
 | i+1,hi=>by
  refine jo_step (fun k hk=>?_) (fun j k hjk hk=>?_) (DiG.jo hh i (by omega)) hi
  ·have h1:=hh.g.b k hk
   have h2:=hh.w
   have h3:=(ok_of hh.g.v hk).2
   unfold wid okR
   show ((-8192<=(h.g.f k).y/\(h.g.f k).y<8192)/\(-8192<=(h.g.f k).x0-(h.w:Int)/\(h.g.f k).x0-(h.w:Int)<=8192)/\ -8192<=(h.g.f k).x1+(h.w:Int)/\(h.g.f k).x1+(h.w:Int)<=8192)/\(h.g.f k).x0-(h.w:Int)<(h.g.f k).x1+(h.w:Int)
   omega
  ·have h1:=lt_of hh.g.v hjk hk
   have h3:=(ok_of hh.g.v (show j<h.g.n by omega)).2
   unfold ltR at h1
   show (h.g.f j).y<(h.g.f k).y\/((h.g.f j).y=(h.g.f k).y/\(h.g.f j).x0-(h.w:Int)<=(h.g.f k).x0-(h.w:Int))
   omega
theorem addR_len (L:List Rn) (r:Rn):(addR L r).length<=L.length+1:=by
 rcases last_cases L with rfl | ⟨P,s,rfl⟩
 ·rw [add_nil]; split<;>simp
 ·rw [add_snoc]
  split
  ·split<;>simp
  ·exact Nat.le_succ _
theorem DiG.W_len (h:DiG):∀ i,(h.W i).length<=i
 | 0=>Nat.le_refl _
 | i+1=>by
  have h1:=addR_len (h.W i) (wid h.w (h.g.f i))
  have h2:=DiG.W_len h i
  show (addR (h.W i) (wid h.w (h.g.f i))).length<=i+1
  omega
theorem DiG.V_mem {h:DiG}(hh:h.Ok) {y x:Int}:mem h.V y x=true<->∃ i,i<h.g.n/\(h.g.f i).y=y/\(h.g.f i).x0-h.w<=x/\x<(h.g.f i).x1+h.w:=by
 rw [show mem h.V y x=mem (Lf (fun k=>wid h.w (h.g.f k)) h.g.n) y x from (DiG.jo hh h.g.n (Nat.le_refl _)).hm y x]
 exact mem_g (g:=⟨h.g.n,fun k=>wid h.w (h.g.f k)⟩)
theorem DiG.V_vld {h:DiG}(hh:h.Ok):vld h.V:=(DiG.jo hh h.g.n (Nat.le_refl _)).hL
theorem rI_mem {L:List Rn}{i:Nat}(h:i<L.length):rI L i∈L:=by
 unfold rI
 rw [List.getD_eq_getElem?_getD,List.getElem?_eq_getElem h]
 exact List.getElem_mem _
theorem mem_rI {L:List Rn}{y x:Int}:mem L y x=true<->∃ i,i<L.length/\(rI L i).y=y/\(rI L i).x0<=x/\x<(rI L i).x1:=by
 have h:=mem_g (g:=⟨L.length,rI L⟩) (y:=y) (x:=x)
 rw [Rg.L_of] at h
 exact h
theorem DiG.V_box {h:DiG}(hh:h.Ok) {m:Nat}(hm:m<h.V.length):(-1000<=(rI h.V m).y/\(rI h.V m).y<=1000)/\(-1100<=(rI h.V m).x0/\(rI h.V m).x1<=1100)/\(rI h.V m).x0<(rI h.V m).x1:=by
 have hr:=rI_mem hm
 have ok:=((DiG.V_vld hh).1 _ hr).2
 have hw:=hh.w
 obtain ⟨i,hi,a1,a2,a3⟩:=(DiG.V_mem hh).1 ((mem_iff _ _ _).2 ⟨_,hr,rfl,Int.le_refl _,ok⟩)
 obtain ⟨j,hj,b1,b2,b3⟩:=(DiG.V_mem hh).1 ((mem_iff _ (rI h.V m).y ((rI h.V m).x1-1)).2 ⟨_,hr,rfl,by omega,by omega⟩)
 have c1:=hh.g.b i hi
 have c2:=hh.g.b j hj
 omega
theorem DiG.R_ok {h:DiG}(hh:h.Ok) {k:Nat}(hk:k<h.V.length*h.q):okR (h.R k):=by
 have hq:0<h.q:=Nat.succ_pos _
 have hw:=hh.w
 obtain ⟨⟨h1,h2⟩,⟨h3,h4⟩,h5⟩:=DiG.V_box hh (Nat.div_lt_of_lt_mul (show k<h.q*h.V.length by rw [Nat.mul_comm]; exact hk))
 have hr:=Nat.mod_lt k hq
 have hq':h.q=2*h.w+1:=rfl
 unfold okR DiG.R
 show ((-8192<=(rI h.V (k / h.q)).y-(h.w:Int)+((k % h.q:Nat):Int)/\(rI h.V (k / h.q)).y-(h.w:Int)+((k % h.q:Nat):Int)<8192)/\(-8192<=(rI h.V (k / h.q)).x0/\(rI h.V (k / h.q)).x0<=8192)/\ -8192<=(rI h.V (k / h.q)).x1/\(rI h.V (k / h.q)).x1<=8192)/\(rI h.V (k / h.q)).x0<(rI h.V (k / h.q)).x1
 omega
theorem DiG.at {h:DiG}{m c:Nat}(hc:c<h.q):(m*h.q+c) / h.q=m/\(m*h.q+c) % h.q=c:=by
 have hq:0<h.q:=Nat.succ_pos _
 constructor
 ·rw [Nat.mul_comm,Nat.mul_add_div hq,Nat.div_eq_of_lt hc,Nat.add_zero]
 ·rw [Nat.mul_comm,Nat.mul_add_mod,Nat.mod_eq_of_lt hc]
theorem DiG.o_vld (h:DiG):vld h.o:=ofSet_vld _
theorem DiG.o_mem {h:DiG}(hh:h.Ok) {y x:Int}:mem h.o y x=true<->∃ a b:Int,(-(h.w:Int)<=a/\a<=h.w)/\(-(h.w:Int)<=b/\b<=h.w)/\mem h.g.L (y+a) (x+b)=true:=by
 rw [show h.o=Rgg.joOut ⟨h.V.length*h.q,h.R⟩ from rfl,jo_mem (fun k hk=>DiG.R_ok hh hk),mem_g]
 have hq':h.q=2*h.w+1:=rfl
 have hq:0<h.q:=Nat.succ_pos _
 constructor
 ·rintro ⟨k,hk,h1,h2,h3⟩
  have hk:k<h.V.length*h.q:=hk
  have hm:=Nat.div_lt_of_lt_mul (show k<h.q*h.V.length by rw [Nat.mul_comm]; exact hk)
  have hr:=Nat.mod_lt k hq
  have h1:(rI h.V (k / h.q)).y-(h.w:Int)+((k % h.q:Nat):Int)=y:=h1
  obtain ⟨i,hi,a1,a2,a3⟩:=(DiG.V_mem hh).1 (mem_rI.2 ⟨_,hm,rfl,h2,h3⟩)
  have ok:=(ok_of hh.g.v hi).2
  by_cases c1:x<(h.g.f i).x0
  ·exact ⟨(h.g.f i).y-y,(h.g.f i).x0-x,by omega,by omega,mem_g.2 ⟨i,hi,by omega,by omega,by omega⟩⟩
  ·by_cases c2:x<(h.g.f i).x1
   ·exact ⟨(h.g.f i).y-y,0,by omega,by omega,mem_g.2 ⟨i,hi,by omega,by omega,by omega⟩⟩
   ·exact ⟨(h.g.f i).y-y,(h.g.f i).x1-1-x,by omega,by omega,mem_g.2 ⟨i,hi,by omega,by omega,by omega⟩⟩
 ·rintro ⟨a,b,ha,hb,hm⟩
  obtain ⟨i,hi,a1,a2,a3⟩:=mem_g.1 hm
  obtain ⟨m,hm,b1,b2,b3⟩:=mem_rI.1 ((DiG.V_mem hh).2 ⟨i,hi,rfl,show (h.g.f i).x0-(h.w:Int)<=x by omega,show x<(h.g.f i).x1+(h.w:Int) by omega⟩)
  obtain ⟨c,hc⟩:∃ c:Nat,(c:Int)=h.w-a:=⟨(h.w-a).toNat,by omega⟩
  have e1:(m*h.q+c) / h.q=m:=by
   rw [Nat.mul_comm,Nat.mul_add_div hq,Nat.div_eq_of_lt (by omega),Nat.add_zero]
  have e2:(m*h.q+c) % h.q=c:=by
   rw [Nat.mul_comm,Nat.mul_add_mod,Nat.mod_eq_of_lt (by omega)]
  have hlt:m*h.q+c<h.V.length*h.q:=by
   have:(m+1)*h.q<=h.V.length*h.q:=Nat.mul_le_mul_right _ hm
   rw [Nat.succ_mul] at this
   omega
  refine ⟨m*h.q+c,hlt,?_⟩
  show (rI h.V ((m*h.q+c) / h.q)).y-(h.w:Int)+(((m*h.q+c) % h.q:Nat):Int)=y/\(rI h.V ((m*h.q+c) / h.q)).x0<=x/\x<(rI h.V ((m*h.q+c) / h.q)).x1
  rw [e1,e2]
  exact ⟨by omega,b2,b3⟩
def Ls (L:List Rn):Rg:=⟨L.length,rI L⟩
noncomputable def dil (w:Nat) (L:List Rn):List Rn:=DiG.o ⟨Ls L,w⟩
theorem Ls_L (L:List Rn):(Ls L).L=L:=Rg.L_of L
structure Bx (B:Int) (L:List Rn):Prop where
 v:vld L
 b:∀ y x,mem L y x=true->(-B<=y/\y<=B)/\ -B<=x/\x<=B
theorem Bx.run {B:Int}{L:List Rn}(h:Bx B L) {r:Rn}(hr:r∈L):(-B<=r.y/\r.y<=B)/\(-B<=r.x0/\r.x1<=B+1)/\r.x0<r.x1:=by
 have ok:=(h.v.1 r hr).2
 have h1:=h.b r.y r.x0 ((mem_iff _ _ _).2 ⟨r,hr,rfl,Int.le_refl _,ok⟩)
 have h2:=h.b r.y (r.x1-1) ((mem_iff _ _ _).2 ⟨r,hr,rfl,by omega,by omega⟩)
 omega
theorem Bx.mono {B C:Int}{L:List Rn}(h:Bx B L) (hBC:B<=C):Bx C L:=⟨h.v,fun y x hm=>by have:=h.b y x hm; omega⟩
theorem Bx.ok {B:Int}{L:List Rn}(h:Bx B L) (hB:B<=900) {w:Nat}(hw:w<=64):(⟨Ls L,w⟩:DiG).Ok:=by
 refine ⟨⟨by rw [Ls_L]; exact h.v,fun i hi=>?_⟩,hw⟩
 have:=h.run (rI_mem (L:=L) (i:=i) hi)
 show (-1000<=(rI L i).y/\(rI L i).y<=1000)/\ -1000<=(rI L i).x0/\(rI L i).x1<=1000
 omega
theorem dil_mem {B:Int}{L:List Rn}(h:Bx B L) (hB:B<=900) {w:Nat}(hw:w<=64) {y x:Int}:mem (dil w L) y x=true<->∃ a b:Int,(-(w:Int)<=a/\a<=w)/\(-(w:Int)<=b/\b<=w)/\mem L (y+a) (x+b)=true:=by
 have:=DiG.o_mem (h.ok hB hw) (y:=y) (x:=x)
 rw [show (DiG.g ⟨Ls L,w⟩).L=L from Ls_L L] at this
 exact this
def rowF (n:Nat) (f:Nat->Rn):SO:= .row 0 n 3 (fun i=>lst (rnL (f i))) 77
def bldS (k:Nat):SO:= .cells 1 (lst [.osl k 0]) 82
def di1 (h:DiG):Inv:=⟨Nat,fun i=>i<=h.g.n,fun i=>⟨[(1,.int .i64 h.w),(5,.own 0 0),(12,rgS h.g),(13,.int .i64 h.g.n),(14,.int .i64 i)],[bldS 1,rowF (h.W i).length (rI (h.W i))]⟩,fun i=>h.g.n-i⟩
def di2 (h:DiG):Inv:=⟨Nat,fun m=>m<=h.V.length,fun m=>⟨[(1,.int .i64 h.w),(8,.osl 2 0),(41,.osl 1 0),(42,.int .i64 h.V.length),(43,.int .i64 m)],[bldS 1,rowF h.V.length (rI h.V),rowF (m*h.q) h.R]⟩,fun m=>h.V.length-m⟩
def di3 (h:DiG) (m:Nat):Inv:=⟨Nat,fun c=>m<h.V.length/\c<=h.q,fun c=>⟨[(1,.int .i64 h.w),(8,.osl 2 0),(41,.osl 1 0),(42,.int .i64 h.V.length),(43,.int .i64 m),(10,.own 3 0),(11,.int .i64 ((rI h.V m).y-(h.w:Int)+(c:Int)))],[bldS 1,rowF h.V.length (rI h.V),rowF (m*h.q+c) h.R,.cells 3 (lst (rnL (rI h.V m))) 77]⟩,fun c=>h.q-c⟩
noncomputable def spDilate:FSpec:=mkSpec 19 (γ:=DiG) (fun | [s,.int _ w]=>some ⟨⟨slLen s,rgD s⟩,w.toNat⟩ | _=>none) (fun h=>[rgS h.g,.int .i64 h.w]) (fun h=>h.Ok/\h.g.n*h.q<=1000000) (fun h=>runsS h.o)
theorem ok_dilate:SpecOK Tryz.prog spDilate:=by
 refine spec_sound (specs:=[spAddR,giv Rgg.spJoin]) (all_ok (⟨ok_addR,giv_ok Rgg.ok_join,trivial⟩)) (eqs:=[]) (fun _ _ h=>(List.not_mem_nil h).elim) Aff.mixed Tryz.func19 rfl (by kernel_rfl) (fun _ _=>by kernel_rfl) (fun g=>(⟨[(3,.inv (di1 g)),(9,.nest (di2 g) (fun m=>[(12,.inv (di3 g m))]))],[(2,[.ownC 0 0 77 3])]⟩:Ann)) (fun g=>Nat.le_of_ble_eq_true (by kernel_rfl)) ?_
 rintro g hg
 refine vc_of (B:=let A:=Sx.Ask;let z29:=(0:Int);let z28:=(↑g.g.n:Int);let z26:=(True/\True);let z25:=(1:Int);let z22:=(-8192:Int);let z20:=((0:Nat)=(0:Nat));let z12:=(↑g.V.length:Int);let z8:=(-9223372036854775808:Int);let z7:=(9223372036854775807:Int);let z4:=(↑g.w:Int);let z14:=((2:Int)*z4+z25);let z0:=(IntKind.i64=IntKind.i64);let z24:=(A z0/\A (z12=z12));let z11:=(A z0/\A (z4=z4));let z9:=(A (g.g.n=g.g.n)/\∀ i:Nat,i<g.g.n->((True/\A z0/\A ((g.g.f i).y=(g.g.f i).y))/\A z0/\A ((g.g.f i).x0=(g.g.f i).x0))/\A z0/\A ((g.g.f i).x1=(g.g.f i).x1));let z3:=(A (g.V.length=g.V.length)/\∀ i:Nat,let z27:=(Rga.rI g.V i); i<g.V.length->((True/\A z0/\A (z27.y=z27.y))/\A z0/\A (z27.x0=z27.x0))/\A z0/\A (z27.x1=z27.x1));True/\True/\True/\True/\True/\(∃ g_1:Nat,A ((di1 g).pre g_1)/\(z11/\A z20/\z9/\(A z0/\A (z28=z28))/\(A z0/\A (z29=(↑g_1:Int)))/\True)/\z26/\(A ((0:Nat)=(g.W g_1).length)/\∀ i:Nat,i<(g.W g_1).length->((True/\False)/\False)/\False)/\True)/\∀ g_1:Nat,let z31:=(↑g_1:Int);let z13:=(g.W g_1);let z21:=(↑z13.length:Int);let z5:=(g.g.f z31.toNat);let z32:=(if z22>z5.x0-z4 then z22 else z5.x0-z4);let z23:=(if (8192:Int)<z5.x1+z4 then (8192:Int) else z5.x1+z4);let z1:=(Rga.AdG.mk z13.length (Rga.rI z13) (Rga.Rn.mk z5.y z32 z23)); (di1 g).pre g_1->True/\Sx.Br (decide (z31<z28)) (A (z29<=z31/\z31<z28)/\True/\True/\True/\True/\True/\True/\True/\True/\A (z8<=z5.x0-z4/\z5.x0-z4<=z7)/\True/\True/\True/\True/\A (z8<=z5.x1+z4/\z5.x1+z4<=z7)/\True/\((True/\(A z20/\(A z0/\A (z5.y=z5.y))/\(A z0/\A (z32=if z22>z5.x0-z4 then z22 else z5.x0-z4))/\(A z0/\A (z23=if (8192:Int)<z5.x1+z4 then (8192:Int) else z5.x1+z4))/\True)/\z26/\(A (z13.length=z13.length)/\∀ i:Nat,let z30:=(Rga.rI z13 i); i<z13.length->((True/\A z0/\A (z30.y=z30.y))/\A z0/\A (z30.x0=z30.x0))/\A z0/\A (z30.x1=z30.x1))/\True)/\A (z13.length<=(4294967296:Nat)))/\A (z8<=z31+z25/\z31+z25<=z7)/\True/\∃ (g':Nat),A ((di1 g).pre g')/\((z11/\A z20/\z9/\(A z0/\A (z28=z28))/\(A z0/\A (z31+z25=(↑g':Int)))/\True)/\z26/\(A (z1.L.length=(g.W g').length)/\∀ i:Nat,i<(g.W g').length->((True/\A z0/\A ((Rga.rI z1.L i).y=(Rga.rI (g.W g') i).y))/\A z0/\A ((Rga.rI z1.L i).x0=(Rga.rI (g.W g') i).x0))/\A z0/\A ((Rga.rI z1.L i).x1=(Rga.rI (g.W g') i).x1))/\True)/\A ((di1 g).meas g'<(di1 g).meas g_1)) (True/\True/\True/\True/\A (z8<=(2:Int)*z4/\(2:Int)*z4<=z7)/\A (z8<=(2:Int)*z4+z25/\(2:Int)*z4+z25<=z7)/\A (z8<=z21*z14/\z21*z14<=z7)/\A (z29<=z29/\z29<=z21*z14/\(↑(24:Nat):Int)*(z21*z14)<=(140737488355328:Int)/\z21*z14<=z7)/\True/\True/\True/\True/\True/\(∃ g_2:Nat,A ((di2 g).pre g_2)/\(z11/\True/\True/\(A z0/\A (z21=z12))/\(A z0/\A (z29=(↑g_2:Int)))/\True)/\z26/\(A (z13.length=g.V.length)/\∀ i:Nat,i<g.V.length->((True/\A z0/\A ((Rga.rI z13 i).y=(Rga.rI g.V i).y))/\A z0/\A ((Rga.rI z13 i).x0=(Rga.rI g.V i).x0))/\A z0/\A ((Rga.rI z13 i).x1=(Rga.rI g.V i).x1))/\(A (Int.toNat z29=g_2*g.q)/\∀ i:Nat,let z34:=(Rga.rI g.V (i / g.q)); i<g_2*g.q->((True/\A z0/\A (z29=z34.y-z4+(↑(i % g.q):Int)))/\A z0/\A (z29=z34.x0))/\A z0/\A (z29=z34.x1))/\True)/\∀ g_2:Nat,let z19:=(↑g_2:Int);let z10:=(Rga.rI g.V z19.toNat);let z6:=(Rga.rI g.V g_2);let z2:=(Rga.Rg.mk (g_2*g.q) fun (i:Nat)=>let z35:=(Rga.rI g.V (i / g.q)); Rga.Rn.mk (z35.y-z4+(↑(i % g.q):Int)) z35.x0 z35.x1); (di2 g).pre g_2->True/\Sx.Br (decide (z19<z12)) (A (z29<=z19/\z19<z12)/\A (z19.toNat<g.V.length)/\True/\True/\True/\True/\True/\A (z8<=z10.y-z4/\z10.y-z4<=z7)/\True/\True/\(∃ g_3:Nat,A ((di3 g g_2).pre g_3)/\(z11/\True/\True/\z24/\(A z0/\A (z19=z19))/\A z20/\(A z0/\A ((if z22>z10.y-z4 then z22 else z10.y-z4)=z6.y-z4+(↑g_3:Int)))/\True)/\z26/\z3/\(A (g_2*g.q=g_2*g.q+g_3)/\∀ i:Nat,let z15:=(Rga.rI g.V (i / g.q)); i<g_2*g.q+g_3->((True/\A z0/\A (z15.y-z4+(↑(i % g.q):Int)=z15.y-z4+(↑(i % g.q):Int)))/\A z0/\A (z15.x0=z15.x0))/\A z0/\A (z15.x1=z15.x1))/\(((True/\A z0/\A (z10.y=z6.y))/\A z0/\A (z10.x0=z6.x0))/\A z0/\A (z10.x1=z6.x1))/\True)/\∀ g_3:Nat,let z37:=(↑g_3:Int); (di3 g g_2).pre g_3->True/\True/\True/\True/\A (z8<=z6.y+z4/\z6.y+z4<=z7)/\True/\True/\Sx.Br (decide (z6.y-z4+z37<=if (8191:Int)<z6.y+z4 then (8191:Int) else z6.y+z4)) (True/\True/\True/\True/\True/\True/\True/\True/\A (g_2*g.q+g_3+(1:Nat)<=(9223372036854775807:Nat)/\(g_2*g.q+g_3+(1:Nat))*(24:Nat)<=(140737488355328:Nat))/\True/\True/\A (z8<=z6.y-z4+z37+z25/\z6.y-z4+z37+z25<=z7)/\True/\∃ (g':Nat),A ((di3 g g_2).pre g')/\((z11/\True/\True/\z24/\(A z0/\A (z19=z19))/\A z20/\(A z0/\A (z6.y-z4+z37+z25=z6.y-z4+(↑g':Int)))/\True)/\z26/\z3/\(A (g_2*g.q+g_3+(1:Nat)=g_2*g.q+g')/\∀ i:Nat,let z36:=(i<g_2*g.q+g_3);let z16:=(Rga.rI g.V (i / g.q)); i<g_2*g.q+g'->((True/\A z0/\A ((bif decide z36 then z16.y-z4+(↑(i % g.q):Int) else z6.y-z4+z37)=z16.y-z4+(↑(i % g.q):Int)))/\A z0/\A ((bif decide z36 then z16.x0 else z6.x0)=z16.x0))/\A z0/\A ((bif decide z36 then z16.x1 else z6.x1)=z16.x1))/\(((True/\A z0/\A (z6.y=z6.y))/\A z0/\A (z6.x0=z6.x0))/\A z0/\A (z6.x1=z6.x1))/\True)/\A ((di3 g g_2).meas g'<(di3 g g_2).meas g_3)) (A (z8<=z19+z25/\z19+z25<=z7)/\True/\∃ (g':Nat),A ((di2 g).pre g')/\((z11/\True/\True/\z24/\(A z0/\A (z19+z25=(↑g':Int)))/\True)/\z26/\z3/\(A (g_2*g.q+g_3=g'*g.q)/\∀ i:Nat,let z17:=(Rga.rI g.V (i / g.q)); i<g'*g.q->((True/\A z0/\A (z17.y-z4+(↑(i % g.q):Int)=z17.y-z4+(↑(i % g.q):Int)))/\A z0/\A (z17.x0=z17.x0))/\A z0/\A (z17.x1=z17.x1))/\True)/\A ((di2 g).meas g'<(di2 g).meas g_2))) (True/\(((A (g_2*g.q=g_2*g.q)/\∀ i:Nat,let z18:=(Rga.rI g.V (i / g.q)); i<g_2*g.q->((True/\A z0/\A (z18.y-z4+(↑(i % g.q):Int)=z18.y-z4+(↑(i % g.q):Int)))/\A z0/\A (z18.x0=z18.x0))/\A z0/\A (z18.x1=z18.x1))/\True)/\A (Rgg.joOk z2))/\True/\True/\A ((Rgg.joOut z2).length=g.o.length)/\∀ i:Nat,let z33:=(Rga.rI (Rgg.joOut z2) i); i<g.o.length->((True/\A z0/\A (z33.y=(Rga.rI g.o i).y))/\A z0/\A (z33.x0=(Rga.rI g.o i).x0))/\A z0/\A (z33.x1=(Rga.rI g.o i).x1)))) (by kernel_rfl) ?_
 simp only [ask_iff,br_iff,eq_self,true_and,and_true,implies_true,forall_const,decide_eq_true_eq,decide_eq_false_iff_not,ne_eq,Nat.mul_one,Nat.add_zero,Nat.zero_add]
 obtain ⟨hh,hn⟩:=hg
 have hw:=hh.w
 have hq:g.q=2*g.w+1:=rfl
 have hgl:=vld_len hh.g.v
 rw [Rg.len] at hgl
 have hVn:g.V.length<=g.g.n:=DiG.W_len g g.g.n
 have hprod:g.V.length*g.q<=1000000:=Nat.le_trans (Nat.mul_le_mul_right _ hVn) hn
 refine ⟨⟨0,Nat.zero_le _,rfl,rfl,fun i hi=>absurd hi (Nat.not_lt_zero i)⟩,fun i hi=>⟨fun hlt=>?_,fun hge=>?_⟩⟩
 ·have hi:i<=g.g.n:=hi
  have hin:i<g.g.n:=by omega
  have z:((i:Int)).toNat=i:=rfl
  have b:=hh.g.b i hin
  have ok:=(ok_of hh.g.v hin).2
  have hWl:=DiG.W_len g i
  have e1:(if -8192>(g.g.f i).x0-(g.w:Int) then -8192 else (g.g.f i).x0-(g.w:Int))=(g.g.f i).x0-(g.w:Int):=if_neg (by omega)
  have e2:(if 8192<(g.g.f i).x1+(g.w:Int) then 8192 else (g.g.f i).x1+(g.w:Int))=(g.g.f i).x1+(g.w:Int):=if_neg (by omega)
  rw [z,e1,e2,Rgb.addL]
  refine ⟨by omega,by omega,by omega,by omega,by omega,i+1,hin,⟨rfl,rfl,fun k _=>⟨⟨rfl,rfl⟩,rfl⟩⟩,?_⟩
  show g.g.n-(i+1)<g.g.n-i
  omega
 ·have hi:i<=g.g.n:=hi
  have ei:i=g.g.n:=by omega
  subst ei
  have hV:g.W g.g.n=g.V:=rfl
  rw [hV]
  have hpI:(g.V.length:Int)*(2*(g.w:Int)+1)=((g.V.length*g.q:Nat):Int):=by rw [hq]; simp
  rw [hpI]
  refine ⟨by omega,by omega,by omega,by omega,⟨0,Nat.zero_le _,⟨rfl,rfl⟩,⟨rfl,fun k _=>⟨⟨rfl,rfl⟩,rfl⟩⟩,(Nat.zero_mul _).symm,fun k hk=>absurd hk (by rw [Nat.zero_mul]; exact Nat.not_lt_zero k)⟩,fun m hm=>⟨fun hlt=>?_,fun hge=>?_⟩⟩
  ·have hmV:m<g.V.length:=by omega
   have z:((m:Int)).toNat=m:=rfl
   obtain ⟨⟨b1,b2⟩,⟨b3,b4⟩,b5⟩:=DiG.V_box hh hmV
   rw [z]
   refine ⟨by omega,hmV,by omega,⟨0,⟨hmV,Nat.zero_le _⟩,by rw [if_neg (by omega)]; omega,rfl,⟨rfl,rfl⟩,rfl⟩,fun c hc=>?_⟩
   obtain ⟨-,hcq⟩:m<g.V.length/\c<=g.q:=hc
   rw [if_neg (show ¬ 8191<(rI g.V m).y+(g.w:Int) by omega)]
   have hb:(m+1)*g.q<=g.V.length*g.q:=Nat.mul_le_mul_right _ hmV
   rw [Nat.succ_mul] at hb
   refine ⟨by omega,fun hle=>⟨by omega,by omega,c+1,⟨hmV,by omega⟩,⟨by omega,rfl,fun k hk=>?_⟩,?_⟩,fun hgt=>⟨by omega,m+1,hmV,⟨rfl,?_⟩,?_⟩⟩
   ·by_cases ck:k<m*g.q+c
    ·rw [decide_eq_true ck]; exact ⟨⟨rfl,rfl⟩,rfl⟩
    ·have ek:k=m*g.q+c:=by omega
     obtain ⟨d1,d2⟩:=DiG.at (h:=g) (m:=m) (c:=c) (by omega)
     rw [decide_eq_false ck,ek,d1,d2]
     exact ⟨⟨rfl,rfl⟩,rfl⟩
   ·show g.q-(c+1)<g.q-c
    omega
   ·rw [Nat.succ_mul]; omega
   ·show g.V.length-(m+1)<g.V.length-m
    omega
  ·have hm:m<=g.V.length:=hm
   have em:m=g.V.length:=by omega
   subst em
   exact ⟨⟨fun k hk=>DiG.R_ok hh hk,by show g.V.length*g.q<=100000000; omega⟩,rfl,fun k _=>⟨⟨rfl,rfl⟩,rfl⟩⟩
def spCheckM:FSpec:=mkSpec 39 (γ:=DiG) (fun | [s,.int _ w]=>some ⟨⟨slLen s,rgD s⟩,w.toNat⟩ | _=>none) (fun h=>[rgS h.g,.int .i64 h.w]) (fun h=>vld h.g.L/\h.w<=64) (fun _=> .int .i64 0)
theorem ok_checkM:SpecOK Tryz.prog spCheckM:=by
 refine spec_sound (specs:=[spCheckR]) (all_ok (⟨ok_checkR,trivial⟩)) (eqs:=[]) (fun _ _ h=>(List.not_mem_nil h).elim) Aff.mixed Tryz.func39 rfl (by kernel_rfl) (fun _ _=>by kernel_rfl) (fun g=>A0) (fun g=>Nat.le_of_ble_eq_true (by kernel_rfl)) ?_
 rintro g hg
 refine vc_of (B:=let A:=Sx.Ask;let z0:=(IntKind.i64=IntKind.i64);True/\True/\(((A (g.g.n=g.g.n)/\∀ i:Nat,i<g.g.n->((True/\A z0/\A ((g.g.f i).y=(g.g.f i).y))/\A z0/\A ((g.g.f i).x0=(g.g.f i).x0))/\A z0/\A ((g.g.f i).x1=(g.g.f i).x1))/\True)/\A (Rga.vld g.g.L/\g.g.n<=(4294967296:Nat)))/\True/\True/\True/\True/\True/\True/\True/\True/\True/\Sx.Br (decide ((64:Int)<(↑g.w:Int))) (True/\True/\A z0/\A ((3:Int)=(0:Int))) (True/\True/\A z0/\A ((0:Int)=(0:Int)))) (by kernel_rfl) ?_
 simp only [ask_iff,br_iff,eq_self,true_and,and_true,implies_true,forall_const,decide_eq_true_eq,decide_eq_false_iff_not,ne_eq,Nat.mul_one,Nat.add_zero,Nat.zero_add]
 obtain ⟨hv,hw⟩:=hg
 have hl:=vld_len hv
 rw [Rg.len] at hl
 exact ⟨⟨hv,by omega⟩,fun h=>absurd h (by omega)⟩
def DiOk (h:DiG):Prop:=h.Ok/\h.g.n*h.q<=1000000
noncomputable def spWithD:FSpec:=mkSpec 18 (γ:=DiG) (fun | [s,.int _ w,.fn _ _ _]=>some ⟨⟨slLen s,rgD s⟩,w.toNat⟩ | _=>none) (fun h=>[rgS h.g,.int .i64 h.w,.fn 19 0 (lst [])]) DiOk (fun h=>Rgc.okP (runsS (h.o)))
theorem ok_withD:SpecOK Tryz.prog spWithD:=by
 refine spec_sound (specs:=[spCheckM,spDilate]) (all_ok (⟨ok_checkM,ok_dilate,trivial⟩)) (eqs:=[]) (fun _ _ h=>(List.not_mem_nil h).elim) Aff.mixed Tryz.func18 rfl (by kernel_rfl) (fun _ _=>by kernel_rfl) (fun g=>A0) (fun g=>Nat.le_of_ble_eq_true (by kernel_rfl)) ?_
 rintro g hg
 refine vc_of (B:=let A:=Sx.Ask;let z1:=(IntKind.i64=IntKind.i64);let z0:=((A (g.g.n=g.g.n)/\∀ i:Nat,i<g.g.n->((True/\A z1/\A ((g.g.f i).y=(g.g.f i).y))/\A z1/\A ((g.g.f i).x0=(g.g.f i).x0))/\A z1/\A ((g.g.f i).x1=(g.g.f i).x1))/\(A z1/\A ((↑g.w:Int)=(↑(↑g.w:Int).toNat:Int)))/\True);True/\True/\True/\True/\(z0/\A (Rga.vld g.g.L/\g.w<=(64:Nat)))/\True/\True/\True/\True/\True/\True/\(z0/\A (g.Ok/\g.g.n*g.q<=(1000000:Nat)))/\True/\True/\True/\(True/\A (g.o.length=g.o.length)/\∀ i:Nat,let z2:=(Rga.rI g.o i); i<g.o.length->((True/\A z1/\A (z2.y=z2.y))/\A z1/\A (z2.x0=z2.x0))/\A z1/\A (z2.x1=z2.x1))/\A z1/\A ((0:Int)=(0:Int))) (by kernel_rfl) ?_
 simp only [ask_iff,br_iff,eq_self,true_and,and_true,implies_true,forall_const,decide_eq_true_eq,decide_eq_false_iff_not,ne_eq,Nat.mul_one,Nat.add_zero,Nat.zero_add]
 exact ⟨⟨rfl,hg.1.g.v,hg.1.w⟩,rfl,hg⟩
noncomputable def spDil:FSpec:=mkSpec 8 (γ:=DiG) (fun | [s,.int _ w]=>some ⟨⟨slLen s,rgD s⟩,w.toNat⟩ | _=>none) (fun h=>[rgS h.g,.int .i64 h.w]) DiOk (fun h=>Rgc.okP (runsS (h.o)))
theorem ok_Dil:SpecOK Tryz.prog spDil:=by
 refine spec_sound (specs:=[spWithD]) (all_ok (⟨ok_withD,trivial⟩)) (eqs:=[]) (fun _ _ h=>(List.not_mem_nil h).elim) Aff.mixed Tryz.func8 rfl (by kernel_rfl) (fun _ _=>by kernel_rfl) (fun g=>A0) (fun g=>Nat.le_of_ble_eq_true (by kernel_rfl)) ?_
 rintro g hg
 refine vc_of (B:=let A:=Sx.Ask;let z0:=(IntKind.i64=IntKind.i64);True/\True/\True/\True/\(((A (g.g.n=g.g.n)/\∀ i:Nat,i<g.g.n->((True/\A z0/\A ((g.g.f i).y=(g.g.f i).y))/\A z0/\A ((g.g.f i).x0=(g.g.f i).x0))/\A z0/\A ((g.g.f i).x1=(g.g.f i).x1))/\(A z0/\A ((↑g.w:Int)=(↑(↑g.w:Int).toNat:Int)))/\(A ((19:Nat)=(19:Go.FuncId))/\True)/\True)/\A (DiOk g))/\True/\True/\True/\True/\True/\(True/\A (g.o.length=g.o.length)/\∀ i:Nat,let z1:=(Rga.rI g.o i); i<g.o.length->((True/\A z0/\A (z1.y=z1.y))/\A z0/\A (z1.x0=z1.x0))/\A z0/\A (z1.x1=z1.x1))/\A z0/\A ((0:Int)=(0:Int))) (by kernel_rfl) ?_
 simp only [ask_iff,br_iff,eq_self,true_and,and_true,implies_true,forall_const,decide_eq_true_eq,decide_eq_false_iff_not,ne_eq,Nat.mul_one,Nat.add_zero,Nat.zero_add]
 exact ⟨rfl,hg⟩
end Go.Proofs.YtmhofgchidojoaaGreat.Dil
set_option linter.unusedSimpArgs false
set_option linter.unusedVariables false
namespace Go.Proofs.YtmhofgchidojoaaGreat.Tdt
open Go.RowKit Sx Num Aff Con Rga Rgl Rgm Rgn Fla Fle Flp Flf Flg Flu Sta Stb Stc Sto Ste Stl Stm Stv Str Tdg Tdp Tdq Tdr
set_option maxRecDepth 100000
def dl (l:Li):Dsh.Li:=⟨l.n,l.f,l.c⟩
structure Ctx (l:Li) (g:Dsj.DaG) (w:Int):Prop where
 e:g.l=dl l
 ok:g.ok
 p:∀ i,i<g.n->g.p i<=40
 n:l.n<=6
 s:∀ i,i<l.n->small 80 (l.f i)
 w:8<=w/\w<=30
def dsG (g:Dsj.DaG):Lns:=⟨(g.out g.N).length,fun i=>⟨(Dsj.dI (g.out g.N) i).length,Dsi.ptI (Dsj.dI (g.out g.N) i),false⟩⟩
theorem out_T (g:Dsj.DaG):∀ k i,i<(g.out k).length->∃ j,g.on j/\Dsj.dI (g.out k) i=g.T j
 | 0,i,h=>absurd h (Nat.not_lt_zero i)
 | k+1,i,h=>by
  have e:g.out (k+1)=if g.on k then g.out k++[g.T k] else g.out k:=rfl
  rw [e] at h ⊢
  split at h
  ·rename_i c
   rw [if_pos c]
   rw [List.length_append] at h
   have h:i<(g.out k).length+1:=h
   by_cases hi:i<(g.out k).length
   ·obtain ⟨j,h1,h2⟩:=out_T g k i hi
    refine ⟨j,h1,?_⟩
    rw [<-h2]
    unfold Dsj.dI
    rw [List.getD_eq_getElem?_getD,List.getD_eq_getElem?_getD,List.getElem?_append_left hi]
   ·refine ⟨k,c,?_⟩
    have:i=(g.out k).length:=by omega
    subst this
    unfold Dsj.dI
    rw [List.getD_eq_getElem?_getD,List.getElem?_append_right (Nat.le_refl _),Nat.sub_self]
    rfl
  ·rename_i c
   rw [if_neg c]
   exact out_T g k i h
theorem isq_zero {n:Nat}(h:isq n=0):n=0:=by
 have:=(isq_spec n).2
 rw [h] at this
 omega
theorem len0 {p q:Pt}(h:Dsh.lenPt p q=0):p=q:=by
 have h1:isq ((q.x-p.x)*(q.x-p.x)+(q.y-p.y)*(q.y-p.y)).toNat=0:=by
  have:((isq ((q.x-p.x)*(q.x-p.x)+(q.y-p.y)*(q.y-p.y)).toNat:Nat):Int)=0:=h
  omega
 have h2:=isq_zero h1
 have a:=sqn (q.x-p.x)
 have b:=sqn (q.y-p.y)
 have e1:q.x-p.x=0:=by
  have:(q.x-p.x)*(q.x-p.x)=0:=by omega
  exact (Int.mul_eq_zero.1 this).elim id id
 have e2:q.y-p.y=0:=by
  have:(q.y-p.y)*(q.y-p.y)=0:=by omega
  exact (Int.mul_eq_zero.1 this).elim id id
 exact eqPt_eq ⟨by omega,by omega⟩
theorem chn (l:Dsh.Li):Chn l.m l.sd:=by
 have hm:=Dsj.Li.m_le l
 refine ⟨fun j hj=>?_,fun j hj=>rfl,fun j hj=>?_,fun j hj h=>len0 h⟩
 ·show l.to j=l.f (j+1)
  exact if_pos (by omega)
 ·show 0<=Dsh.lenPt (l.f j) (l.to j)
  exact Int.natCast_nonneg _
def Sde (l:Li) (S:Dsh.Sd):Prop:=∃ j,j<l.n/\(l.c=true\/j+1<l.n)/\S.p=l.f j/\S.q=to l j/\S.size=Dsh.lenPt S.p S.q
theorem m_side {l:Li}{j:Nat}(h:j<(dl l).m):j<l.n/\(l.c=true\/j+1<l.n):=by
 have e:(dl l).m=if l.n<=1 then 0 else if l.c then l.n else l.n-1:=rfl
 rw [e] at h
 split at h
 ·omega
 ·split at h
  ·rename_i c; exact ⟨h,.inl c⟩
  ·exact ⟨by omega,.inr (by omega)⟩
theorem T_prs {l:Li}{g:Dsj.DaG}{w:Int}(h:Ctx l g w) {j:Nat}(hj:g.on j):Prs (Sde l) (g.T j)/\(g.T j).length<=7:=by
 have hE:=(g.E_ok h.ok).1
 have ha:=(g.a_up h.ok j).2
 have hb:g.b j<=g.E:=by unfold Dsj.DaG.b; split<;>omega
 have hm:=Dsj.Li.m_le g.l
 have hn:g.l.n<=6:=by rw [h.e]; exact h.n
 have hex:=Dsj.ex_side g.l ha g.l.m (fun i hi=>(Dsj.Li.len0 h.ok.1.1 hi).1) (show g.a j<Dsh.Li.o g.l g.l.m by have:=hj.2; show g.a j<g.E; omega)
 have hk:Dsi.TkG.k ⟨g.l.m,g.l.sd,g.a j,g.b j⟩<g.l.m:=Dsi.sk_lt (by
  obtain ⟨i,a,b,c⟩:=hex
  exact ⟨i,a,b,by show g.a j<=(g.l.sd i).o+(g.l.sd i).size; omega⟩)
 have:=take_prs (P:=Sde l) (g:=⟨g.l.m,g.l.sd,g.a j,g.b j⟩) (chn g.l) ha (fun i hi=>by
  have hi:i<g.l.m:=hi
  show Sde l (g.l.sd i)
  rw [h.e] at hi ⊢
  obtain ⟨h1,h2⟩:=m_side hi
  exact ⟨i,h1,h2,rfl,rfl,rfl⟩) hj.2 hk
 refine ⟨this.1,?_⟩
 have h2:(g.T j).length<=g.l.m+1:=this.2
 omega
theorem sde_small {l:Li}(hs:∀ i,i<l.n->small 80 (l.f i)) {S:Dsh.Sd}(h:Sde l S):small 80 S.p/\small 80 S.q:=by
 obtain ⟨j,h1,h2,e1,e2,-⟩:=h
 rw [e1,e2]
 refine ⟨hs j h1,?_⟩
 unfold to
 split
 ·rename_i c; exact hs _ c
 ·exact hs 0 (by omega)
theorem T_pts {l:Li}{g:Dsj.DaG}{w:Int}(h:Ctx l g w) {j:Nat}(hj:g.on j) {i:Nat}(hi:i<(g.T j).length):small 81 (Dsi.ptI (g.T j) i):=by
 have hE:=(g.E_ok h.ok).1
 have ha:=(g.a_up h.ok j).2
 have hb:g.b j<=g.E:=by unfold Dsj.DaG.b; split<;>omega
 have hex:=Dsj.ex_side g.l ha g.l.m (fun i hi=>(Dsj.Li.len0 h.ok.1.1 hi).1) (show g.a j<Dsh.Li.o g.l g.l.m by have:=hj.2; show g.a j<g.E; omega)
 have hk:Dsi.TkG.k ⟨g.l.m,g.l.sd,g.a j,g.b j⟩<g.l.m:=Dsi.sk_lt (by
  obtain ⟨i,a,b,c⟩:=hex
  exact ⟨i,a,b,by show g.a j<=(g.l.sd i).o+(g.l.sd i).size; omega⟩)
 refine take_evy (Q:=small 81) (g:=⟨g.l.m,g.l.sd,g.a j,g.b j⟩) (chn g.l) ha (fun i hi=>?_) hk i hi
 have hi:i<g.l.m:=hi
 have hS:Sde l (g.l.sd i):=by
  rw [h.e] at hi ⊢
  obtain ⟨h1,h2⟩:=m_side hi
  exact ⟨i,h1,h2,rfl,rfl,rfl⟩
 obtain ⟨s1,s2⟩:=sde_small h.s hS
 exact ⟨sm_le s2 (by decide),fun h1 u hu=>on_small h1 s1 s2 hu⟩
theorem dash_near {l:Li}{g:Dsj.DaG}{w:Int}(h:Ctx l g w) {j:Nat}(hj:g.on j) {y x:Int}(hm:mem (lineR (sty w 0) ⟨(g.T j).length,Dsi.ptI (g.T j),false⟩) y x=true):∃ S,Sde l S/\1<=S.size/\Sup w S.p (df S) S.size y x:=by
 obtain ⟨hp,hlen⟩:=T_prs h hj
 generalize hd:(⟨(g.T j).length,Dsi.ptI (g.T j),false⟩:Li)=d at *
 have dn:d.n=(g.T j).length:=by rw [<-hd]
 have dc:d.c=false:=by rw [<-hd]
 have df':d.f=Dsi.ptI (g.T j):=by rw [<-hd]
 have eC:clean d=dd d.f d.n:=if_neg (by rw [dc]; decide)
 have hw:=h.w
 have two:∀ i,i+1<(clean d).length->∃ S,Sde l S/\1<=S.size/\OnS S (gP (clean d) i)/\OnS S (gP (clean d) (i+1))/\gP (clean d) i≠gP (clean d) (i+1):=by
  intro i hi
  have hne:=cl_adj d i hi
  rw [eC] at hi hne ⊢
  obtain ⟨k,k1,k2,k3⟩:=dd_side d.f d.n i hi
  rw [k2,k3] at hne ⊢
  rw [dn] at k1
  rw [df'] at hne ⊢
  have ne:Dsi.ptI (g.T j) k≠Dsi.ptI (g.T j) (k+1):=fun e=>hne (by rw [e]; exact ⟨rfl,rfl⟩)
  rcases hp k k1 with e | ⟨S,a,b,c,c'⟩
  ·exact absurd e ne
  ·exact ⟨S,a,b,c,c',ne⟩
 have hs:∀ i,i<d.n->small 81 (d.f i):=fun i hi=>by
  rw [df']
  rw [dn] at hi
  exact T_pts h hj hi
 by_cases c2:2<=(clean d).length
 ·have eN:sdN d (clean d).length=(clean d).length-1:=by unfold sdN; rw [if_neg (by omega),if_neg (by rw [dc]; decide)]
  rcases (line_mem _ _ _ _).1 hm with ⟨t,ht,hm⟩ | ⟨t,ht,hm⟩
  ·obtain ⟨o1,o2⟩:=out_parts (s:=sty w 0) (l:=d) rfl (.inl rfl) c2
   obtain ⟨o3,o4⟩:=o2 t (by omega)
   obtain ⟨a1,a2,a3⟩:=sdA_mk w d t
   have o4:Cor (sdA w d t).p (sdA w d t).d (sdA w d t).n ((outX (sty w 0) d).p t):=o4
   rw [a1,a2,a3,if_pos (show t+1<(clean d).length by omega)] at o4
   obtain ⟨S,b1,b2,b3,b4,b5⟩:=two t (by omega)
   exact ⟨S,b1,b2,part_sup (by omega) b2 b3 b4 b5 o4 ((part_mem o3 y x).1 hm).2⟩
  ·obtain ⟨i,hi,e⟩:=out_d0 (s:=sty w 0) (l:=d) rfl rfl dc c2 ht
   obtain ⟨S,b1,b2,b3,-,-⟩:=two i hi
   rw [e] at hm
   have sm:small 81 (gP (clean d) i):=by
    obtain ⟨k,hk,ek⟩:=cl_mem d i (by omega)
    rw [ek]; exact hs k hk
   exact ⟨S,b1,b2,disc_sup hw.1 b2 b3 ((disc_mem (sm_le sm (by decide)) (by show 2<=w/\w<=60; omega) y x).1 hm)⟩
 ·obtain ⟨n0,k0⟩:=out_dot (s:=sty w 0) (l:=d) rfl (by omega)
  rcases (line_mem _ _ _ _).1 hm with ⟨t,ht,-⟩ | ⟨t,ht,-⟩<;>omega
theorem side_near {l:Li}{w:Int}(hw:8<=w/\w<=30) (hs:∀ i,i<l.n->small 80 (l.f i)) {S:Dsh.Sd}(hS:Sde l S) (hne:S.p≠S.q) {y x:Int}(h:Sup w S.p (df S) S.size y x) :
  ∃ a b:Int,(-6<=a/\a<=6)/\(-6<=b/\b<=6)/\mem (lineR (sty w 1) l) (y+b) (x+a)=true:=by
 have hd:(df S).x≠0\/(df S).y≠0:=ne_df hne
 obtain ⟨l0,l1,l2⟩:=len_sq hd
 obtain ⟨a,b,ha,hb,hh⟩:=Tdg.move hw (dot_pos hd) (nv_nor (w:=w) (by omega) hd) (nv_pos (w:=8) (by omega) hd) (nv_d2 hd) (nv_eight hd) l0 l1 l2 (near_of hw.1 h)
 obtain ⟨j,h1,h2,e1,e2,-⟩:=hS
 obtain ⟨c2,t,ht,g1,g2⟩:=cl_side h1 h2 (fun e=>hne (by rw [e1,e2]; exact eqPt_eq e))
 exact ⟨a,b,ha,hb,inn_mem hw (fun i hi=>sm_le (hs i hi) (by decide)) c2 ht (g1.trans e1.symm) (g2.trans e2.symm) hne hh⟩
theorem neq_of {l:Li}{S:Dsh.Sd}(hS:Sde l S) (h1:1<=S.size) (e:S.p=S.q):False:=by
 obtain ⟨j,-,-,-,-,e5⟩:=hS
 have e0:Dsh.lenPt S.q S.q=0:=by
  show ((isq ((S.q.x-S.q.x)*(S.q.x-S.q.x)+(S.q.y-S.q.y)*(S.q.y-S.q.y)).toNat:Nat):Int)=0
  rw [Int.sub_self,Int.sub_self]
  rfl
 rw [e,e0] at e5
 omega
theorem cover {l:Li}{g:Dsj.DaG}{w:Int}(h:Ctx l g w) {y x:Int}(hm:mem (outR ⟨dsG g,sty w 0⟩) y x=true) :
  ∃ a b:Int,(-6<=a/\a<=6)/\(-6<=b/\b<=6)/\mem (outR ⟨⟨1,fun _=>l⟩,sty w 1⟩) (y+b) (x+a)=true:=by
 rw [out_mem] at hm
 obtain ⟨i,hi,hm⟩:=(sR_mem _ _ _ _ _).1 hm
 obtain ⟨j,hj,e⟩:=out_T g g.N i hi
 have hm:mem (lineR (sty w 0) ⟨(Dsj.dI (g.out g.N) i).length,Dsi.ptI (Dsj.dI (g.out g.N) i),false⟩) y x=true:=hm
 rw [e] at hm
 obtain ⟨S,s1,s2,s3⟩:=dash_near h hj hm
 have hne:S.p≠S.q:=fun e=>neq_of s1 s2 e
 obtain ⟨a,b,ha,hb,hh⟩:=side_near h.w h.s s1 hne s3
 refine ⟨a,b,ha,hb,?_⟩
 rw [out_mem]
 exact (sR_mem _ _ _ _ _).2 ⟨0,Nat.zero_lt_one,hh⟩
theorem sty_ok {w cap:Int}(hw:8<=w/\w<=30) (hc:cap=0\/cap=1):Sty.tiny (sty w cap):=by
 refine ⟨⟨⟨⟨?_,?_⟩,?_,?_⟩,⟨?_,?_⟩,?_,?_⟩,?_⟩<;>first | (show (_:Int)<=w; omega) | (show w<=_; omega) | (show (0:Int)<=cap; omega) | (show cap<=2; omega) | (show (_:Int)<=1; decide) | (show (0:Int)<=1; decide) | (show (16:Int)<=16; decide) | (show (16:Int)<=1024; decide)
theorem line_ok1 {l:Li}{w:Int}(hw:8<=w/\w<=30) (hn:l.n<=6) (hs:∀ i,i<l.n->small 80 (l.f i)):StrOK ⟨⟨1,fun _=>l⟩,sty w 1⟩:=
 str_ok ⟨by show 1<=8; decide,fun _ _=>⟨by show l.n<=8; omega,fun i hi=>sm_le (hs i hi) (by decide)⟩⟩ (sty_ok hw (.inr rfl))
theorem out_one {s:Sty}{l:Li}(hc:s.cap=1) (h2:(clean l).length<2):(outX s l).n=0/\∀ t,t<(outX s l).k->(clean l).length=1/\(outX s l).d t=gP (clean l) 0:=by
 have e:lnO s l=if (clean l).length=1 then (o0 s).dsc (gP (clean l) 0) else o0 s:=by
  unfold lnO Olr.ln
  rw [if_pos h2]
  split
  ·unfold Olr.dt
   rw [if_pos (show (o0 s).cap=1 from hc)]
  ·rfl
 obtain ⟨k1,k2⟩:=out_k s l
 have hn:(outX s l).n=(lnO s l).n:=by rw [outX_eq]; rfl
 rw [hn,k1,k2,e]
 split
 ·rename_i c
  refine ⟨rfl,fun t ht=>⟨c,?_⟩⟩
  have ht:t<0+1:=ht
  have:t=0:=by omega
  subst this
  exact dsc_new (o0 s) _
 ·exact ⟨rfl,fun t ht=>absurd ht (Nat.not_lt_zero t)⟩
theorem b_box {l:Li}{w:Int}(hw:8<=w/\w<=30) (hn:l.n<=6) (hs:∀ i,i<l.n->small 80 (l.f i)):Dil.Bx 112 (outR ⟨⟨1,fun _=>l⟩,sty w 1⟩):=by
 refine ⟨out_vld _ _,fun y x hm=>?_⟩
 rw [out_mem] at hm
 obtain ⟨i,hi,hm⟩:=(sR_mem _ _ _ _ _).1 hm
 have hm:mem (lineR (sty w 1) l) y x=true:=hm
 have hs':∀ i,i<l.n->small 81 (l.f i):=fun i hi=>sm_le (hs i hi) (by decide)
 by_cases c:2<=(clean l).length
 ·have:=line_box hw (.inr rfl) (show l.n<=8 by omega) hs' hm (.inl c)
  omega
 ·obtain ⟨n0,k0⟩:=out_one (s:=sty w 1) (l:=l) rfl (by omega)
  rcases (line_mem _ _ _ _).1 hm with ⟨t,ht,-⟩ | ⟨t,ht,hm⟩
  ·omega
  ·obtain ⟨c1,e⟩:=k0 t ht
   rw [e] at hm
   have sm:small 81 (gP (clean l) 0):=by
    obtain ⟨k,hk,ek⟩:=cl_mem l 0 (by omega)
    rw [ek]; exact hs' k hk
   have:=disc_box (M:=81) (w:=w) (by omega) sm ((disc_mem (sm_le sm (by decide)) (by show 2<=w/\w<=60; omega) y x).1 hm)
   omega
theorem box_len {L:List Rn}(h:Dil.Bx 112 L):L.length<=60000:=by
 have:=rise (fun r=>(r.y+112).toNat*230+(r.x0+112).toNat) (N:=60000) L 0 (pw_mem h.v.2 fun r hr s hs hlt=>by
  have a:=h.run hr
  have b:=h.run hs
  unfold ltR at hlt
  show (r.y+112).toNat*230+(r.x0+112).toNat<(s.y+112).toNat*230+(s.x0+112).toNat
  omega) fun r hr=>by
  have a:=h.run hr
  show 0<=(r.y+112).toNat*230+(r.x0+112).toNat/\(r.y+112).toNat*230+(r.x0+112).toNat<60000
  omega
 omega
theorem dil_ok {l:Li}{w:Int}(hw:8<=w/\w<=30) (hn:l.n<=6) (hs:∀ i,i<l.n->small 80 (l.f i)):Dil.DiOk ⟨Dil.Ls (outR ⟨⟨1,fun _=>l⟩,sty w 1⟩),6⟩:=by
 have hb:=b_box hw hn hs
 refine ⟨hb.ok (by decide) (by decide),?_⟩
 have:=box_len hb
 show (outR ⟨⟨1,fun _=>l⟩,sty w 1⟩).length*(2*6+1)<=1000000
 omega
theorem part_len {o:Olr}{t:Nat}(hm:o.m t=4) (hT:∀ j,j<4->small 150 (o.p t j)):(fillL ins1 (winL o t)).length<=1500:=by
 have hv:=fill_vld ins1 (winL o t)
 have hmm:=fill_mem ins1 (winL o t)
 have hn:(winL o t).E.length<=4:=by
  rw [quad_E o t hm,List.length_append,List.length_append,List.length_append]
  have a:=mkE_len (o.p t 0) (o.p t 1)
  have b:=mkE_len (o.p t 1) (o.p t 2)
  have c:=mkE_len (o.p t 2) (o.p t 3)
  have d:=mkE_len (o.p t 3) (o.p t 0)
  omega
 have hbx:∀ r∈fillL ins1 (winL o t),-150<=r.y/\r.y<150:=fun r hr=>by
  have h7:=(hv.1 r hr).2
  have:=((part_mem hm r.y r.x0).1 ((mem_iff _ _ _).2 ⟨r,hr,rfl,Int.le_refl _,h7⟩)).2
  exact (hull_box hT this).1
 generalize hN:(winL o t).E.length=n at *
 generalize eI (winL o t).E=E at *
 have h:=rise (code E n) (N:=8342*(n+1)) (fillL ins1 (winL o t)) (8042*(n+1)) (pw_mem hv.2 fun r hr s hs h=>code_lt hv hmm hr hs h) fun r hr=>by
  have c1:=cntE_le E r.y r.x0 n
  have b:=hbx r hr
  have h2:(r.y+8192).toNat*(n+1)<=8341*(n+1):=Nat.mul_le_mul_right _ (by omega)
  have h3:8042*(n+1)<=(r.y+8192).toNat*(n+1):=Nat.mul_le_mul_right _ (by omega)
  unfold code
  omega
 omega
theorem dash_len {l:Li}{g:Dsj.DaG}{w:Int}(h:Ctx l g w) {j:Nat}(hj:g.on j):(lineR (sty w 0) ⟨(g.T j).length,Dsi.ptI (g.T j),false⟩).length<=20000:=by
 obtain ⟨hp,hlen⟩:=T_prs h hj
 have hT:=fun i hi=>T_pts h hj (i:=i) hi
 generalize hd:(⟨(g.T j).length,Dsi.ptI (g.T j),false⟩:Li)=d at *
 have dn:d.n=(g.T j).length:=by rw [<-hd]
 have df':d.f=Dsi.ptI (g.T j):=by rw [<-hd]
 have dc':d.c=false:=by rw [<-hd]
 have hw:=h.w
 have hs:∀ i,i<d.n->small 81 (d.f i):=fun i hi=>by rw [df']; exact hT i (by omega)
 have cl:=cl_len d
 have cs:∀ i,i<(clean d).length->small 81 (gP (clean d) i):=fun i hi=>by
  obtain ⟨j,hj,e⟩:=cl_mem d i hi
  rw [e]; exact hs j hj
 have fin:∀ o:Olr,o.n<=8->o.k<=8->(∀ t,t<o.n->o.m t=4/\∀ j,j<4->small 150 (o.p t j))->(∀ t,t<o.k->small 300 (o.d t))->(fR o o.n++dR o w o.k).length<=20000:=by
  intro o hn hk hP hD
  have a:∀ i,i<=o.n->(fR o i).length<=1500*i:=by
   intro i
   induction i with
   | zero=>intro _; exact Nat.le_refl _
   | succ i ih=>
    intro hi
    show (fR o i++fillL ins1 (winL o i)).length<=_
    have h1:=ih (by omega)
    have h2:=part_len (hP i (by omega)).1 (hP i (by omega)).2
    rw [List.length_append]
    omega
  have b:∀ i,i<=o.k->(dR o w i).length<=100*i:=by
   intro i
   induction i with
   | zero=>intro _; exact Nat.le_refl _
   | succ i ih=>
    intro hi
    show (dR o w i++dsk (o.d i) w (dN (o.d i) w)).length<=_
    have h1:=ih (by omega)
    have h2:=dsk_len (o.d i) w (dN (o.d i) w)
    have h3:dN (o.d i) w<=100:=by
     have c:=hD i (by omega)
     unfold small at c
     have hh:dH w=w / 2+1:=by
      unfold dH
      rw [Int.tdiv_eq_ediv_of_nonneg (by omega)]
     unfold dN dY0 dY1
     rw [hh]
     split<;>split<;>omega
    rw [List.length_append]
    omega
  have h1:=a o.n (Nat.le_refl _)
  have h2:=b o.k (Nat.le_refl _)
  rw [List.length_append]
  omega
 show (fR (outX (sty w 0) d) (outX (sty w 0) d).n++dR (outX (sty w 0) d) w (outX (sty w 0) d).k).length<=20000
 by_cases c2:2<=(clean d).length
 ·obtain ⟨o1,o2⟩:=out_parts (s:=sty w 0) (l:=d) rfl (.inl rfl) c2
  have eN:sdN d (clean d).length=(clean d).length-1:=by unfold sdN; rw [if_neg (by omega),if_neg (by rw [dc']; decide)]
  have hk:(outX (sty w 0) d).k<=8:=by
   obtain ⟨-,-,⟨a4,-⟩,-⟩:=bod1 (s:=sty w 0) (l:=d) rfl
   have e:lnO (sty w 0) d=bod (sty w 0) d:=by
    rw [ln_eq c2]
    unfold Olr.ends
    rw [if_neg (by rw [dc']; decide)]
    obtain ⟨⟨-,a2⟩,-⟩:=bod1 (s:=sty w 0) (l:=d) rfl
    have a2:(bod (sty w 0) d).cap=0:=a2
    unfold Olr.cp
    rw [if_neg (by omega),if_neg (by omega)]
   rw [(out_k _ _).1,e,a4]
   omega
  refine fin _ (by omega) hk (fun t ht=>?_) (fun t ht=>?_)
  ·obtain ⟨o3,o4⟩:=o2 t (by omega)
   obtain ⟨a1,a2,a3⟩:=sdA_mk w d t
   have o4:Cor (sdA w d t).p (sdA w d t).d (sdA w d t).n ((outX (sty w 0) d).p t):=o4
   rw [a1,a2,a3,if_pos (show t+1<(clean d).length by omega)] at o4
   refine ⟨o3,fun j hj=>sm_le (cor_small o4 (cs t (by omega)) ?_ (nv_small (by omega) (ne_df fun e=>cl_adj d t (by omega) (by rw [e]; exact ⟨rfl,rfl⟩))) hj) (by decide)⟩
   have:(⟨(gP (clean d) t).x+(subP (gP (clean d) (t+1)) (gP (clean d) t)).x,(gP (clean d) t).y+(subP (gP (clean d) (t+1)) (gP (clean d) t)).y⟩:Pt)=gP (clean d) (t+1):=eqPt_eq ⟨by show _+(_-_)=_; omega,by show _+(_-_)=_; omega⟩
   rw [this]
   exact cs _ (by omega)
  ·obtain ⟨i,hi,e⟩:=out_dc (s:=sty w 0) (l:=d) rfl (.inl rfl) c2 ht
   rw [e]
   exact sm_le (cs i hi) (by decide)
 ·obtain ⟨n0,k0⟩:=out_dot (s:=sty w 0) (l:=d) rfl (by omega)
  exact fin _ (by omega) (by omega) (fun t ht=>by omega) (fun t ht=>by omega)
theorem E_le {l:Li}{g:Dsj.DaG}{w:Int}(h:Ctx l g w):g.E<=1362:=by
 have key:∀ i,i<=l.n->Dsh.Li.o (dl l) i<=227*(i:Int):=by
  intro i
  induction i with
  | zero=>intro _; exact Int.le_refl _
  | succ i ih=>
   intro hi
   show Dsh.Li.o (dl l) i+Dsh.lenPt (l.f i) ((dl l).to i)<=_
   have h1:=ih (by omega)
   have s1:=h.s i (by omega)
   have s2:small 80 ((dl l).to i):=by
    show small 80 (if i+1<l.n then l.f (i+1) else l.f 0)
    split
    ·exact h.s _ (by omega)
    ·exact h.s _ (by omega)
   have h2:Dsh.lenPt (l.f i) ((dl l).to i)<=227:=by
    generalize (dl l).to i=q at *
    generalize l.f i=p at *
    unfold small at s1 s2
    have a:=sq_up (a:=q.x-p.x) (b:=160) ⟨by omega,by omega⟩
    have b:=sq_up (a:=q.y-p.y) (b:=160) ⟨by omega,by omega⟩
    have hs:=(isq_spec ((q.x-p.x)*(q.x-p.x)+(q.y-p.y)*(q.y-p.y)).toNat).1
    show ((isq ((q.x-p.x)*(q.x-p.x)+(q.y-p.y)*(q.y-p.y)).toNat:Nat):Int)<=227
    refine Int.not_lt.1 fun hc=>?_
    have:=Nat.mul_le_mul (show 228<=isq ((q.x-p.x)*(q.x-p.x)+(q.y-p.y)*(q.y-p.y)).toNat by omega) (show 228<=isq ((q.x-p.x)*(q.x-p.x)+(q.y-p.y)*(q.y-p.y)).toNat by omega)
    omega
   omega
 have hm:=Dsj.Li.m_le (dl l)
 have hm:(dl l).m<=l.n:=hm
 have:=key _ hm
 have hn:=h.n
 show Dsh.Li.o g.l g.l.m<=1362
 rw [h.e]
 omega
theorem out_few {l:Li}{g:Dsj.DaG}{w:Int}(h:Ctx l g w):(g.out g.N).length<=800:=by
 have hE:=E_le h
 have key:∀ k,2*((g.out k).length:Int)<=1404:=by
  intro k
  induction k with
  | zero=>show (0:Int)<=_; omega
  | succ k ih=>
   by_cases c:g.at k<g.E
   ·have h1:=(g.len_ok h.ok (k+1)).1
    have h2:g.at (k+1)=g.at k+g.p (k % g.n):=rfl
    have h3:=h.p (k % g.n) (Nat.mod_lt _ (by have:=h.ok.1.2.1; omega))
    omega
   ·have h1:=(g.stop h.ok (i:=k) (by omega) 1).1
    rw [h1]
    exact ih
 have:=key g.N
 omega
theorem dash_ok {l:Li}{g:Dsj.DaG}{w:Int}(h:Ctx l g w):StrOK ⟨dsG g,sty w 0⟩:=by
 have hw:=h.w
 have hf:=out_few h
 have hs:=sty_ok hw (.inl rfl:(0:Int)=0\/(0:Int)=1)
 have ti:∀ i,i<(dsG g).n->tiny ((dsG g).f i):=fun i hi=>by
  obtain ⟨j,hj,e⟩:=out_T g g.N i hi
  have hl:=(T_prs h hj).2
  show (Dsj.dI (g.out g.N) i).length<=8/\∀ k,k<(Dsj.dI (g.out g.N) i).length->small 200 (Dsi.ptI (Dsj.dI (g.out g.N) i) k)
  rw [e]
  exact ⟨by omega,fun k hk=>sm_le (T_pts h hj hk) (by decide)⟩
 refine ⟨⟨⟨show (g.out g.N).length<=1024 by omega,fun i hi=>⟨Nat.le_trans (ti i hi).1 (by decide),fun j hj=>sm_le ((ti i hi).2 j hj) (by omega)⟩⟩,hs.1⟩,fun i hi=>?_,fun i hi=>?_,fun i hi t ht=>?_,fun i hi=>(out_good hs (ti i hi)).1.2,?_,sR_ok _ _ _⟩
 ·obtain ⟨a,b,-⟩:=ln_good hs (ti i hi)
  exact ⟨⟨tiny_in (ti i hi),hs.1⟩,good_fin a b⟩
 ·obtain ⟨-,b,c⟩:=out_good hs (ti i hi)
  exact ⟨Nat.le_trans b (by decide),Nat.le_trans c (by decide)⟩
 ·obtain ⟨a,b,-⟩:=out_good hs (ti i hi)
  exact (good_fin a b).2 t ht
 ·have key:∀ k,k<=(g.out g.N).length->(sR (sty w 0) (dsG g) k).length<=20000*k:=by
   intro k
   induction k with
   | zero=>intro _; exact Nat.le_refl _
   | succ k ih=>
    intro hk
    obtain ⟨j,hj,e⟩:=out_T g g.N k (by omega)
    have h2:=dash_len h hj
    rw [<-e] at h2
    have h1:=ih (by omega)
    show (sR (sty w 0) (dsG g) k++lineR (sty w 0) ((dsG g).f k)).length<=_
    rw [List.length_append]
    have h2:(lineR (sty w 0) ((dsG g).f k)).length<=20000:=h2
    omega
  have:=key _ (Nat.le_refl _)
  show (sR (sty w 0) (dsG g) (g.out g.N).length).length<=100000000
  omega
noncomputable def DiG_o (L:List Rn):List Rn:=Dil.dil 6 L
theorem none_left {l:Li}{g:Dsj.DaG}{w:Int}(h:Ctx l g w) {y x:Int}(hm:mem (outR ⟨dsG g,sty w 0⟩) y x=true):mem (DiG_o (outR ⟨⟨1,fun _=>l⟩,sty w 1⟩)) y x=true:=by
 obtain ⟨a,b,ha,hb,hh⟩:=cover h hm
 exact (Dil.dil_mem (b_box h.w h.n h.s) (by decide) (by decide)).2 ⟨b,a,by omega,by omega,hh⟩
theorem minus_nil {a b:List Rn}(h:∀ y x,mem a y x=true->mem b y x=true):Rgb.cbOut Rgb.mn ⟨⟨a.length,rI a⟩,⟨b.length,rI b⟩⟩=[]:=by
 refine ofSet_eq vld_nil fun y x=>?_
 show false=Rgb.mn (mem (Rg.L ⟨a.length,rI a⟩) y x) (mem (Rg.L ⟨b.length,rI b⟩) y x)
 rw [Rg.L_of,Rg.L_of]
 unfold Rgb.mn
 have:=h y x
 cases h1:mem a y x
 ·rfl
 ·rw [this h1]; rfl
end Go.Proofs.YtmhofgchidojoaaGreat.Tdt
set_option linter.unusedSimpArgs false
set_option linter.unusedVariables false
namespace Go.Proofs.YtmhofgchidojoaaGreat.Tdw
open Go.RowKit Sx Num Aff Con Rga Rgl Rgn Fla Sta Sto Ste Tdt
set_option maxRecDepth 100000
def spACut:FSpec:=mkSpec 6 (γ:=Int×Int×Int) (fun | [.int _ x,.int _ l,.int _ h]=>some (x,l,h) | _=>none) (fun g=>[.int .i64 g.1,.int .i64 g.2.1,.int .i64 g.2.2])
 (fun g=>(-1000000<=g.2.1/\g.2.1<=g.2.2)/\g.2.2<=1000000) (fun g=> .int .i64 (cutI g.1 g.2.1 g.2.2))
theorem ok_aCut:SpecOK Tryz.prog spACut:=by
 refine spec_sound (specs:=[]) (all_ok trivial) (eqs:=[]) (fun _ _ h=>(List.not_mem_nil h).elim) Aff.mixed Tryz.func6 rfl (by kernel_rfl) (fun _ _=>by kernel_rfl) (fun g=>A0) (fun g=>Nat.le_of_ble_eq_true (by kernel_rfl)) ?_
 rintro ⟨x,low,high⟩ ⟨⟨h1,h2⟩,h3⟩
 simp only at h1 h2 h3
 obtain ⟨e1,e2,e3⟩:=cut_plain x (high-low+1) (by omega)
 have h5:=Int.emod_nonneg (x.tmod (high-low+1)) (b:=high-low+1) (by omega)
 have h6:=Int.emod_lt_of_pos (x.tmod (high-low+1)) (b:=high-low+1) (by omega)
 have e4:(x.tmod (high-low+1)+(high-low+1)).tmod (high-low+1)=x % (high-low+1):=by
  rw [Int.tmod_eq_emod_of_nonneg (by omega),Int.add_emod_right,e1]
 refine vc_of (B:=let A:=Sx.Ask;let z3:=(high-low+(1:Int)≠(0:Int));let z2:=(9223372036854775807:Int);let z1:=(-9223372036854775808:Int);let z0:=(high-low+(1:Int));True/\True/\True/\A (z1<=high-low/\high-low<=z2)/\A (z1<=high-low+(1:Int)/\high-low+(1:Int)<=z2)/\True/\True/\True/\True/\A z3/\True/\A (z1<=x.tmod z0+z0/\x.tmod z0+z0<=z2)/\True/\A z3/\A (z1<=low+(x.tmod z0+z0).tmod z0/\low+(x.tmod z0+z0).tmod z0<=z2)/\True/\True/\A (IntKind.i64=IntKind.i64)/\A (low+(x.tmod z0+z0).tmod z0=cutI x low high)) (by kernel_rfl) ?_
 simp only [e4]
 rw [e1] at h5 h6
 simp [ask_iff,br_iff,cutI]
 omega
structure AlG where
 g:Lns
 most:Int
def AlG.ok (h:AlG):Prop:=(h.g.n<=9223372036854775807/\∀ i,i<h.g.n->(h.g.f i).n<=9223372036854775807)/\0<=h.most/\h.most<=32767
def AlG.pt (h:AlG) (i:Nat):Pt:=⟨bif decide (i=0) then 3 else cutI ((h.g.f 0).f (i-1)).x (-h.most) h.most,bif decide (i=0) then 3 else cutI ((h.g.f 0).f (i-1)).y (-h.most) h.most⟩
def AlG.out (h:AlG):Li:=⟨if h.g.n=0 then 1 else min (h.g.f 0).n 5+1,h.pt,bif decide (h.g.n=0) then false else (h.g.f 0).c⟩
def alI (h:AlG):Inv:=⟨Nat,fun i=>h.g.n≠0/\i<=5/\i<=(h.g.f 0).n,fun i=>⟨[(0,lnsS h.g),(1,.int .i64 h.most),(4,.own 0 0),(5,.own 2 0),(6,.int .i64 i)],
 [.cells 2 (lst [.any,.any]) 31,.row 0 (i+1) 2 (fun j=>lst (ptL (h.pt j))) 28,.cells 2 (lst [.osl 1 0,.bool (h.g.f 0).c]) 31]⟩,fun i=>5-i⟩
def spALine:FSpec:=mkSpec 5 (γ:=AlG) (fun | [s,.int _ m]=>some ⟨⟨slLen s,lnsD s⟩,m⟩ | _=>none) (fun h=>[lnsS h.g,.int .i64 h.most]) AlG.ok (fun h=>liS h.out)
theorem ok_aLine:SpecOK Tryz.prog spALine:=by
 refine spec_sound (specs:=[spACut]) (all_ok (⟨ok_aCut,trivial⟩)) (eqs:=[]) (fun _ _ h=>(List.not_mem_nil h).elim) Aff.mixed Tryz.func5 rfl (by kernel_rfl) (fun _ _=>by kernel_rfl) (fun g=>(⟨[(6,.inv (alI g))],[]⟩:Ann)) (fun g=>Nat.le_of_ble_eq_true (by kernel_rfl)) ?_
 rintro h hh
 refine vc_of (B:=let A:=Sx.Ask;let z15:=(True/\True);let z14:=(-h.most);let z12:=(3:Int);let z7:=(0:Nat);let z6:=(1:Nat);let z5:=(0:Int);let z13:=(h.g.f (Int.toNat z5));let z11:=(((-1000000:Int)<=z5-h.most/\z5-h.most<=h.most)/\h.most<=(1000000:Int));let z10:=(z5<=z5/\z5<(↑h.g.n:Int));let z9:=((-9223372036854775808:Int)<=z5-h.most/\z5-h.most<=(9223372036854775807:Int));let z3:=(h.g.f z7);let z17:=(z3.c=bif decide (h.g.n=z7) then false else z3.c);let z1:=(IntKind.i64=IntKind.i64);let z18:=(A z1/\A (z5-h.most=z5-h.most));let z8:=(A z1/\A (h.most=h.most));let z2:=(A (h.g.n=h.g.n)/\∀ i:Nat,let z19:=(h.g.f i); i<h.g.n->(True/\A (z19.n=z19.n)/\∀ i_1:Nat,i_1<z19.n->(True/\A z1/\A ((z19.f i_1).x=(z19.f i_1).x))/\A z1/\A ((z19.f i_1).y=(z19.f i_1).y))/\A (z19.c=z19.c));True/\True/\True/\True/\True/\True/\True/\True/\True/\Sx.Br (decide ((↑h.g.n:Int)=z5)) (True/\True/\z15/\(True/\A (z6=if h.g.n=z7 then z6 else Min.min z3.n (5:Nat)+z6)/\∀ i:Nat,(i<if h.g.n=z7 then z6 else Min.min z3.n (5:Nat)+z6)->(True/\A z1/\A (z12=bif decide (i=z7) then z12 else cutI (z3.f (i-z6)).x z14 h.most))/\A z1/\A (z12=bif decide (i=z7) then z12 else cutI (z3.f (i-z6)).y z14 h.most))/\A (false=bif decide (h.g.n=z7) then false else z3.c)) (True/\A z10/\True/\True/\True/\True/\True/\(∃ g:Nat,A ((alI h).pre g)/\(z2/\z8/\A (z7=z7)/\A (z7=z7)/\(A z1/\A (z5=(↑g:Int)))/\True)/\(z15/\True)/\(A (z6=g+z6)/\∀ i:Nat,i<g+z6->(True/\A z1/\A (z12=bif decide (i=z7) then z12 else cutI (z3.f (i-z6)).x z14 h.most))/\A z1/\A (z12=bif decide (i=z7) then z12 else cutI (z3.f (i-z6)).y z14 h.most))/\(z15/\A (z13.c=z3.c))/\True)/\∀ g:Nat,let z16:=(↑g:Int);let z4:=(z13.f z16.toNat);let z0:=(True/\A (g+z6=if h.g.n=z7 then z6 else Min.min z3.n (5:Nat)+z6)/\∀ i:Nat,let z20:=(z3.f (i-z6)); (i<if h.g.n=z7 then z6 else Min.min z3.n (5:Nat)+z6)->(True/\A z1/\A ((bif decide (i=z7) then z12 else cutI z20.x z14 h.most)=bif decide (i=z7) then z12 else cutI z20.x z14 h.most))/\A z1/\A ((bif decide (i=z7) then z12 else cutI z20.y z14 h.most)=bif decide (i=z7) then z12 else cutI z20.y z14 h.most)); (alI h).pre g->True/\True/\A z10/\True/\True/\True/\True/\True/\Sx.Br (decide (z16<(↑z13.n:Int))) (True/\True/\True/\Sx.Br (decide (z16<(5:Int))) (True/\True/\True/\A z10/\True/\True/\True/\A (z5<=z16/\z16<(↑z13.n:Int))/\True/\True/\True/\A z9/\True/\(((A z1/\A (z4.x=z4.x))/\z18/\z8/\True)/\A z11)/\True/\A z10/\True/\True/\True/\A (z5<=z16/\z16<(↑z13.n:Int))/\True/\True/\True/\A z9/\True/\(((A z1/\A (z4.y=z4.y))/\z18/\z8/\True)/\A z11)/\True/\True/\A (g+z6+z6<=(9223372036854775807:Nat)/\(g+z6+z6)*(16:Nat)<=(140737488355328:Nat))/\True/\True/\True/\A ((-9223372036854775808:Int)<=z16+(1:Int)/\z16+(1:Int)<=(9223372036854775807:Int))/\True/\∃ (g':Nat),A ((alI h).pre g')/\((z2/\z8/\A (z7=z7)/\A (z7=z7)/\(A z1/\A (z16+(1:Int)=(↑g':Int)))/\True)/\(z15/\True)/\(A (g+z6+z6=g'+z6)/\∀ i:Nat,let z21:=(z3.f (i-z6)); i<g'+z6->(True/\A z1/\A ((bif decide (i<g+z6) then bif decide (i=z7) then z12 else cutI z21.x z14 h.most else cutI z4.x (z5-h.most) h.most)=bif decide (i=z7) then z12 else cutI z21.x z14 h.most))/\A z1/\A ((bif decide (i<g+z6) then bif decide (i=z7) then z12 else cutI z21.y z14 h.most else cutI z4.y (z5-h.most) h.most)=bif decide (i=z7) then z12 else cutI z21.y z14 h.most))/\(z15/\A (z3.c=z3.c))/\True)/\A ((alI h).meas g'<(alI h).meas g)) (True/\True/\z15/\z0/\A z17)) (True/\True/\True/\z15/\z0/\A z17))) (by kernel_rfl) ?_
 simp only [ask_iff,br_iff,eq_self,true_and,and_true,implies_true,forall_const,decide_eq_true_eq,decide_eq_false_iff_not,ne_eq,Nat.mul_one,Nat.add_zero,Nat.zero_add,Int.toNat_natCast,and_self,List.append_assoc,false_and,and_false]
 obtain ⟨⟨hn,hm⟩,h0,h1⟩:=hh
 have p0:∀ i:Nat,i<1->3=(bif decide (i=0) then (3:Int) else cutI ((h.g.f 0).f (i-1)).x (-h.most) h.most)/\3=(bif decide (i=0) then (3:Int) else cutI ((h.g.f 0).f (i-1)).y (-h.most) h.most):=fun i hi=>by
  obtain rfl:i=0:=by omega
  exact ⟨rfl,rfl⟩
 refine ⟨fun c=>?_,fun c=>?_⟩
 ·have c':h.g.n=0:=by omega
  rw [if_pos c',decide_eq_true c']
  exact ⟨⟨rfl,p0⟩,rfl⟩
 ·have c':¬ h.g.n=0:=by omega
  have hl:=hm 0 (by omega)
  rw [if_neg c',decide_eq_false c']
  have z:(Int.toNat 0)=0:=rfl
  rw [z]
  refine ⟨by omega,⟨0,⟨c',by omega,Nat.zero_le _⟩,rfl,⟨rfl,p0⟩,rfl⟩,fun i hi=>?_⟩
  obtain ⟨-,i5,il⟩:h.g.n≠0/\i<=5/\i<=(h.g.f 0).n:=hi
  have em:0-h.most = -h.most:=by omega
  rw [em]
  refine ⟨by omega,fun a=>⟨fun b=>⟨by omega,by omega,by omega,by omega,by omega,by omega,by omega,by omega,by omega,by omega,i+1,⟨c',by omega,by omega⟩,⟨by omega,by omega,fun j hj=>?_⟩,?_⟩,fun b=>⟨by omega,rfl⟩⟩,fun a=>⟨by omega,rfl⟩⟩
  ·by_cases cj:j<i+1
   ·rw [decide_eq_true cj]; exact ⟨rfl,rfl⟩
   ·obtain rfl:j=i+1:=by omega
    rw [decide_eq_false cj]; exact ⟨rfl,rfl⟩
  ·show 5-(i+1)<5-i
   omega
noncomputable def aX (h:AlG):Li:=Classical.choose (⟨_,rfl⟩:∃ o,o=h.out)
theorem aX_eq (h:AlG):aX h=h.out:=Classical.choose_spec (⟨_,rfl⟩:∃ o,o=h.out)
noncomputable def spALinX:FSpec:=mkSpec 5 (γ:=AlG) (fun | [s,.int _ m]=>some ⟨⟨slLen s,lnsD s⟩,m⟩ | _=>none) (fun h=>[lnsS h.g,.int .i64 h.most]) AlG.ok (fun h=>liS (aX h))
theorem ok_aLinX:SpecOK Tryz.prog spALinX:=by
 have e:aX=AlG.out:=funext aX_eq
 unfold spALinX
 rw [e]
 exact ok_aLine
structure TdG where
 g:Lns
 n:Nat
 p:Nat->Int
 ph:Int
 w:Int
def TdG.ok (h:TdG):Prop:=(h.g.n<=9223372036854775807/\∀ i,i<h.g.n->(h.g.f i).n<=9223372036854775807)/\h.n<=9223372036854775807
def TdG.q (h:TdG):Nat->Int
 | 0=>cutI h.ph 2 30
 | i+1=>cutI (h.p i) 2 40
noncomputable def TdG.l (h:TdG):Li:=aX ⟨h.g,80⟩
def TdG.ww (h:TdG):Int:=cutI h.w 8 30
noncomputable def TdG.D (h:TdG) (i:Nat):Dsj.DaG:=⟨dl h.l,i+1,h.q,cutI h.ph 0 1000⟩
theorem TdG.ctx {h:TdG}{i:Nat}(hi:i<=4):Ctx h.l (h.D i) h.ww:=by
 have el:h.l=AlG.out ⟨h.g,80⟩:=aX_eq _
 have hs:∀ k,small 80 (h.l.f k):=fun k=>by
  rw [el]
  show (-80<=(bif decide (k=0) then (3:Int) else cutI ((h.g.f 0).f (k-1)).x (-80) 80)/\(bif decide (k=0) then (3:Int) else cutI ((h.g.f 0).f (k-1)).x (-80) 80)<=80)/\ -80<=(bif decide (k=0) then (3:Int) else cutI ((h.g.f 0).f (k-1)).y (-80) 80)/\(bif decide (k=0) then (3:Int) else cutI ((h.g.f 0).f (k-1)).y (-80) 80)<=80
  cases decide (k=0)
  ·exact ⟨cutI_range _ (-80) 80 (by decide),cutI_range _ (-80) 80 (by decide)⟩
  ·exact ⟨(by decide:(-80:Int)<=3/\(3:Int)<=80),(by decide:(-80:Int)<=3/\(3:Int)<=80)⟩
 have hn:h.l.n<=6:=by
  rw [el]
  show (if h.g.n=0 then 1 else min (h.g.f 0).n 5+1)<=6
  split<;>omega
 have hp:∀ k,2<=h.q k/\h.q k<=40:=fun k=>by
  cases k with
  | zero=>have:=cutI_range h.ph 2 30 (by decide); show 2<=cutI h.ph 2 30/\cutI h.ph 2 30<=40; omega
  | succ k=>exact cutI_range (h.p k) 2 40 (by decide)
 have hx:=cutI_range h.ph 0 1000 (by decide)
 refine ⟨rfl,⟨⟨⟨?_,fun k _=>?_⟩,?_,?_⟩,fun k _=>?_,?_⟩,fun k _=>(hp k).2,hn,fun k _=>hs k,cutI_range h.w 8 30 (by decide)⟩
 ·show h.l.n<=9; omega
 ·have:=hs k
  unfold small at this
  show (-500<=(h.l.f k).x/\(h.l.f k).x<=500)/\ -500<=(h.l.f k).y/\(h.l.f k).y<=500
  omega
 ·show 1<=i+1; omega
 ·show i+1<=16; omega
 ·have:=hp k
  show 2<=h.q k/\h.q k<=1000
  omega
 ·show 0<=cutI h.ph 0 1000/\cutI h.ph 0 1000<=1048576
  omega
theorem TdG.fin {h:TdG}{i:Nat}(hi:i<=4):(((-1000000:Int)<=0/\(0:Int)<=1000)/\(1000:Int)<=1000000)/\(h.D i).ok/\StrOK ⟨dsG (h.D i),Tdr.sty h.ww 0⟩/\StrOK ⟨⟨1,fun _=>h.l⟩,Tdr.sty h.ww 1⟩/\((6:Int)=(Int.toNat 6:Int)/\Dil.DiOk ⟨Dil.Ls (outR ⟨⟨1,fun _=>h.l⟩,Tdr.sty h.ww 1⟩),Int.toNat 6⟩)/\
  (vld (Rg.L ⟨(outR ⟨dsG (h.D i),Tdr.sty h.ww 0⟩).length,rI (outR ⟨dsG (h.D i),Tdr.sty h.ww 0⟩)⟩)/\vld (Rg.L ⟨(DiG_o (outR ⟨⟨1,fun _=>h.l⟩,Tdr.sty h.ww 1⟩)).length,rI (DiG_o (outR ⟨⟨1,fun _=>h.l⟩,Tdr.sty h.ww 1⟩))⟩))/\
  (((Rgb.cbOut Rgb.mn ⟨⟨(outR ⟨dsG (h.D i),Tdr.sty h.ww 0⟩).length,rI (outR ⟨dsG (h.D i),Tdr.sty h.ww 0⟩)⟩,⟨(DiG_o (outR ⟨⟨1,fun _=>h.l⟩,Tdr.sty h.ww 1⟩)).length,rI (DiG_o (outR ⟨⟨1,fun _=>h.l⟩,Tdr.sty h.ww 1⟩))⟩⟩).length:Nat):Int)=0:=by
 have c:=h.ctx hi
 refine ⟨⟨⟨by decide,by decide⟩,by decide⟩,c.ok,dash_ok c,line_ok1 c.w c.n c.s,⟨rfl,dil_ok c.w c.n c.s⟩,⟨?_,?_⟩,?_⟩
 ·rw [Rg.L_of]; exact Stm.out_vld _ _
 ·rw [Rg.L_of]; exact Dil.DiG.o_vld _
 ·rw [minus_nil fun y x hm=>none_left c hm]; rfl
noncomputable def tdI (h:TdG):Inv:=⟨Nat,fun i=>i<=4/\i<=h.n,fun i=>⟨[(1,.sl h.n 1 (fun i=>lst [.int .i64 (h.p i)])),(2,.int .i64 h.ph),(3,.int .i64 h.ww),(11,.own 0 0),(12,.osl 1 0),(13,.int .i64 i)],
 [.cells 2 (lst (liL h.l)) 31,.row 0 (i+1) 1 (fun j=>lst [.int .i64 (h.q j)]) 3]⟩,fun i=>4-i⟩
def inQ:SV->Nat->Int
 | .sl _ _ f=>fun i=>Sx.intOf (f i 0)
 | _=>fun _=>0
noncomputable def spTd:FSpec:=mkSpec 3 (γ:=TdG) (fun | [s,t,.int _ x,.int _ w]=>some ⟨⟨slLen s,lnsD s⟩,slLen t,inQ t,x,w⟩ | _=>none) (fun h=>[lnsS h.g,.sl h.n 1 (fun i=>lst [.int .i64 (h.p i)]),.int .i64 h.ph,.int .i64 h.w]) TdG.ok (fun _=> .bool true)
theorem ok_td:SpecOK Tryz.prog spTd:=by
 refine spec_sound (specs:=[spACut,spALinX,giv Dsj.spDash,giv Ste.spStr,Dil.spDil,Rgc.spMinus]) (all_ok (⟨ok_aCut,ok_aLinX,giv_ok Dsj.ok_dash,giv_ok Ste.ok_str,Dil.ok_Dil,Rgc.ok_Minus,trivial⟩)) (eqs:=[]) (fun _ _ h=>(List.not_mem_nil h).elim) Aff.mixed Tryz.func3 rfl (by kernel_rfl) (fun _ _=>by kernel_rfl) (fun g=>(⟨[(7,.inv (tdI g))],[]⟩:Ann)) (fun g=>Nat.le_of_ble_eq_true (by kernel_rfl)) ?_
 rintro h hh
 refine vc_of (B:=let A:=Sx.Ask;let z34:=(1000000:Int);let z33:=(2:Nat);let z32:=(-1000000:Int);let z28:=(1000:Int);let z25:=(30:Int);let z23:=(2:Int);let z21:=(1:Int);let z20:=(AlG.mk h.g (80:Int));let z16:=(0:Int);let z14:=(1:Nat);let z17:=(Sto.StrG.mk (Fla.Lns.mk z14 fun (i:Nat)=>h.l) (Sto.Sty.mk h.ww z21 z21 (16:Int)));let z3:=(IntKind.i64=IntKind.i64);let z31:=(True/\A z3/\A (h.ww=h.ww));let z19:=(A (h.n=h.n)/\∀ i:Nat,i<h.n->True/\A z3/\A (h.p i=h.p i));let z18:=(A z3/\A (h.ph=h.ph));let z11:=((z18/\(A z3/\A (z16=z16))/\(A z3/\A (z28=z28))/\True)/\A ((z32<=z16/\z16<=z28)/\z28<=z34));let z6:=(True/\A (h.l.n=h.l.n)/\∀ i:Nat,i<h.l.n->(True/\A z3/\A ((h.l.f i).x=(h.l.f i).x))/\A z3/\A ((h.l.f i).y=(h.l.f i).y));let z8:=(((A (z14=z14)/\∀ i:Nat,i<z14->z6/\A (h.l.c=h.l.c))/\(((z31/\A z3/\A (z21=z21))/\A z3/\A (z21=z21))/\A z3/\A ((16:Int)=(16:Int)))/\True)/\A (Ste.StrOK z17));let z1:=(Ste.outR z17);let z4:=(Dil.DiG.mk (Rga.Rg.mk z1.length (Rga.rI z1)) (Int.toNat (6:Int)));let z35:=(Rga.Rg.mk z4.o.length (Rga.rI z4.o));let z10:=(((A (z1.length=z1.length)/\∀ i:Nat,let z29:=(Rga.rI z1 i); i<z1.length->((True/\A z3/\A (z29.y=z29.y))/\A z3/\A (z29.x0=z29.x0))/\A z3/\A (z29.x1=z29.x1))/\(A z3/\A ((6:Int)=(↑(Int.toNat (6:Int)):Int)))/\True)/\A (Dil.DiOk z4));True/\True/\True/\True/\True/\True/\((((True/\A (z33=z33)/\∀ i:Nat,i<z33->(True/\A z3/\A ((bif decide (i=z14) then (10:Int) else z16)=bif decide (i=z14) then (10:Int) else z16))/\A z3/\A ((bif decide (i=z14) then z16 else z16)=bif decide (i=z14) then z16 else z16))/\A (false=false))/\(A (z33=z33)/\∀ i:Nat,i<z33->True/\A z3/\A ((bif decide (i=z14) then z23 else (4:Int))=bif decide (i=z14) then z23 else (4:Int)))/\(A z3/\A (z21=z21))/\True)/\A (Dsj.DaG.mk (Dsh.Li.mk z33 (fun (i:Nat)=>Con.Pt.mk (bif decide (i=z14) then (10:Int) else z16) (bif decide (i=z14) then z16 else z16)) false) z33 (fun (i:Nat)=>bif decide (i=z14) then z23 else (4:Int)) z21).ok)/\True/\True/\True/\True/\True/\True/\True/\True/\True/\True/\True/\True/\True/\(((A (h.g.n=h.g.n)/\∀ i:Nat,let z30:=(h.g.f i); i<h.g.n->(True/\A (z30.n=z30.n)/\∀ i_1:Nat,i_1<z30.n->(True/\A z3/\A ((z30.f i_1).x=(z30.f i_1).x))/\A z3/\A ((z30.f i_1).y=(z30.f i_1).y))/\A (z30.c=z30.c))/\(A z3/\A ((80:Int)=(80:Int)))/\True)/\A z20.ok)/\True/\(((A z3/\A (h.w=h.w))/\(A z3/\A ((8:Int)=(8:Int)))/\(A z3/\A (z25=z25))/\True)/\A ((z32<=(8:Int)/\(8:Int)<=z25)/\z25<=z34))/\True/\True/\True/\True/\((z18/\(A z3/\A (z23=z23))/\(A z3/\A (z25=z25))/\True)/\A ((z32<=z23/\z23<=z25)/\z25<=z34))/\True/\True/\True/\(∃ g:Nat,A ((tdI h).pre g)/\(z19/\z18/\(A z3/\A (cutI h.w (8:Int) z25=h.ww))/\A ((0:Nat)=(0:Nat))/\True/\(A z3/\A (z16=(↑g:Int)))/\True)/\((True/\A ((aX z20).n=h.l.n)/\∀ i:Nat,i<h.l.n->(True/\A z3/\A (((aX z20).f i).x=(h.l.f i).x))/\A z3/\A (((aX z20).f i).y=(h.l.f i).y))/\A ((aX z20).c=h.l.c))/\(A (z14=g+z14)/\∀ i:Nat,i<g+z14->True/\A z3/\A (cutI h.ph z23 z25=h.q i))/\True)/\∀ g:Nat,let z26:=(↑g:Int);let z12:=(Dsj.DaG.mk (Dsh.Li.mk h.l.n h.l.f h.l.c) (g+z14) h.q (cutI h.ph z16 z28));let z9:=(((z6/\A (h.l.c=h.l.c))/\(A (g+z14=g+z14)/\∀ i:Nat,i<g+z14->True/\A z3/\A (h.q i=h.q i))/\(A z3/\A (cutI h.ph z16 z28=cutI h.ph z16 z28))/\True)/\A z12.ok);let z2:=(z12.out z12.N);let z0:=(Sto.StrG.mk (Fla.Lns.mk z2.length fun (i:Nat)=>Fla.Li.mk (Dsj.dI z2 i).length (Dsi.ptI (Dsj.dI z2 i)) false) (Sto.Sty.mk h.ww z16 z21 (16:Int)));let z15:=(Ste.outR z0);let z13:=(decide ((↑(Rgb.cbOut Rgb.mn (Rgm.CbG.mk (Rga.Rg.mk z15.length (Rga.rI z15)) z35)).length:Int)=z16)=true);let z7:=(((A (z2.length=z2.length)/\∀ i:Nat,i<z2.length->(True/\A ((Dsj.dI z2 i).length=(Dsj.dI z2 i).length)/\∀ i_1:Nat,let z22:=(Dsi.ptI (Dsj.dI z2 i) i_1); i_1<(Dsj.dI z2 i).length->(True/\A z3/\A (z22.x=z22.x))/\A z3/\A (z22.y=z22.y))/\A (false=false))/\(((z31/\A z3/\A (z16=z16))/\A z3/\A (z21=z21))/\A z3/\A ((16:Int)=(16:Int)))/\True)/\A (Ste.StrOK z0));let z5:=(((A (z15.length=z15.length)/\∀ i:Nat,let z27:=(Rga.rI z15 i); i<z15.length->((True/\A z3/\A (z27.y=z27.y))/\A z3/\A (z27.x0=z27.x0))/\A z3/\A (z27.x1=z27.x1))/\(A (z4.o.length=z4.o.length)/\∀ i:Nat,let z24:=(Rga.rI z4.o i); i<z4.o.length->((True/\A z3/\A (z24.y=z24.y))/\A z3/\A (z24.x0=z24.x0))/\A z3/\A (z24.x1=z24.x1))/\True)/\A (Rga.vld (Rga.Rg.mk z15.length (Rga.rI z15)).L/\Rga.vld z35.L)); (tdI h).pre g->True/\True/\True/\True/\True/\Sx.Br (decide (z26<(↑h.n:Int))) (True/\True/\True/\Sx.Br (decide (z26<(4:Int))) (True/\True/\True/\A (z16<=z26/\z26<(↑h.n:Int))/\True/\(((A z3/\A (h.p z26.toNat=h.p z26.toNat))/\(A z3/\A (z23=z23))/\(A z3/\A ((40:Int)=(40:Int)))/\True)/\A ((z32<=z23/\z23<=(40:Int))/\(40:Int)<=z34))/\True/\A (g+z14+z14<=(9223372036854775807:Nat)/\(g+z14+z14)*(8:Nat)<=(140737488355328:Nat))/\True/\True/\A ((-9223372036854775808:Int)<=z26+z21/\z26+z21<=(9223372036854775807:Int))/\True/\∃ (g':Nat),A ((tdI h).pre g')/\((z19/\z18/\(A z3/\A (h.ww=h.ww))/\A ((0:Nat)=(0:Nat))/\True/\(A z3/\A (z26+z21=(↑g':Int)))/\True)/\(z6/\A (h.l.c=h.l.c))/\(A (g+z14+z14=g'+z14)/\∀ i:Nat,i<g'+z14->True/\A z3/\A ((bif decide (i<g+z14) then h.q i else cutI (h.p z26.toNat) z23 (40:Int))=h.q i))/\True)/\A ((tdI h).meas g'<(tdI h).meas g)) (True/\True/\True/\z11/\z9/\True/\True/\True/\True/\True/\True/\True/\True/\z7/\True/\True/\True/\True/\True/\True/\True/\True/\True/\z8/\True/\True/\True/\True/\True/\True/\z10/\True/\True/\True/\True/\True/\True/\True/\z5/\True/\True/\True/\True/\True/\True/\True/\True/\True/\True/\True/\True/\True/\True/\True/\True/\True/\True/\True/\True/\True/\True/\A z13)) (True/\True/\True/\True/\z11/\z9/\True/\True/\True/\True/\True/\True/\True/\True/\z7/\True/\True/\True/\True/\True/\True/\True/\True/\True/\z8/\True/\True/\True/\True/\True/\True/\z10/\True/\True/\True/\True/\True/\True/\True/\z5/\True/\True/\True/\True/\True/\True/\True/\True/\True/\True/\True/\True/\True/\True/\True/\True/\True/\True/\True/\True/\True/\True/\A z13)) (by kernel_rfl) ?_
 simp only [ask_iff,br_iff,eq_self,true_and,and_true,implies_true,forall_const,decide_eq_true_eq,decide_eq_false_iff_not,ne_eq,Nat.mul_one,Nat.add_zero,Nat.zero_add,Int.toNat_natCast,and_self,List.append_assoc,false_and,and_false]
 have q0:∀ i:Nat,i<1->cutI h.ph 2 30=h.q i:=fun i hi=>by
  obtain rfl:i=0:=by omega
  rfl
 refine ⟨?_,⟨hh.1,by show (0:Int)<=80; decide,by show (80:Int)<=32767; decide⟩,by decide,by decide,⟨0,⟨Nat.zero_le _,Nat.zero_le _⟩,⟨rfl,rfl⟩,⟨⟨rfl,fun _ _=>⟨rfl,rfl⟩⟩,rfl⟩,rfl,q0⟩,fun i hi=>?_⟩
 ·refine ⟨⟨⟨by decide,fun i hi=>?_⟩,by decide,by decide⟩,fun i hi=>?_,by decide,by decide⟩
  ·have hi:i<2:=hi
   match i,hi with
   | 0,_=>exact ⟨by decide,by decide⟩
   | 1,_=>exact ⟨by decide,by decide⟩
  ·have hi:i<2:=hi
   match i,hi with
   | 0,_=>exact ⟨by decide,by decide⟩
   | 1,_=>exact ⟨by decide,by decide⟩
 ·obtain ⟨i4,il⟩:i<=4/\i<=h.n:=hi
  refine ⟨fun a=>⟨fun b=>⟨by omega,by decide,by omega,by omega,i+1,⟨by omega,by omega⟩,⟨by omega,by omega,fun j hj=>?_⟩,?_⟩,fun _=>h.fin i4⟩,fun _=>h.fin i4⟩
  ·by_cases cj:j<i+1
   ·rw [decide_eq_true cj]; rfl
   ·obtain rfl:j=i+1:=by omega
    rw [decide_eq_false cj]; rfl
  ·show 4-(i+1)<4-i
   omega
end Go.Proofs.YtmhofgchidojoaaGreat.Tdw
