/- Part 9 of the texts that the law's proof leans on. -/
import Derived.Test.YtmhofgchidojoaaGreatM8
set_option linter.unusedSimpArgs false
set_option linter.unusedVariables false
namespace Go.Proofs.YtmhofgchidojoaaGreat.Flr
open Con Fla Flb Flc Fld Fle Flp Flf Flg
theorem sumN_mul (c:Int) (φ:Nat->Int):∀ n,sumN (fun i=>c*φ i) n=c*sumN φ n
 | 0=>(Int.mul_zero c).symm
 | n+1=>by
  show sumN (fun i=>c*φ i) n+c*φ n=c*(sumN φ n+φ n)
  rw [sumN_mul c φ n,Int.mul_add]
theorem strip (F:Nat->Int) (a d:Nat):∀ n,sumN (fun j=>if a<=j/\j<a+d then F j else 0) n=sumN (fun k=>F (a+k)) (min n (a+d)-a)
 | 0=>by rw [show min 0 (a+d)-a=0 by omega]; rfl
 | n+1=>by
  show sumN (fun j=>if a<=j/\j<a+d then F j else 0) n+(if a<=n/\n<a+d then F n else 0)=_
  rw [strip F a d n]
  by_cases h:a<=n/\n<a+d
  ·rw [if_pos h,show min (n+1) (a+d)-a=(min n (a+d)-a)+1 by omega]
   show _=_+F (a+(min n (a+d)-a))
   rw [show a+(min n (a+d)-a)=n by omega]
  ·rw [if_neg h,show min (n+1) (a+d)-a=min n (a+d)-a by omega]
   omega
theorem first_spec {e:Ed}(h:e.ok) (y:Int):e.num y<=2*e.dy*e.first y/\2*e.dy*e.first y<e.num y+2*e.dy:=by
 have hd:1<=2*e.dy:=by have:=h.2.2.1.1; omega
 have q:=Num.quo_spec (-(e.num y)) (2*e.dy) hd
 unfold Ed.first
 rw [Int.mul_neg,Int.mul_comm (2*e.dy)]
 omega
theorem num_at (e:Ed) (k:Nat):e.num (e.y+k)=2*e.dy*e.x+e.dx*(2*(k:Int)+1)-e.dy:=by
 unfold Ed.num
 rw [show e.y+(k:Int)-e.y=k by omega]
def rows (e:Ed) (m:Nat):Int:=sumN (fun k=>e.first (e.y+k)) m
theorem rows_in {e:Ed}(h:e.ok):∀ m:Nat,(2*e.dy*e.x)*(m:Int)+e.dx*((m:Int)*m)-e.dy*m<=2*e.dy*rows e m/\2*e.dy*rows e m<=(2*e.dy*e.x)*(m:Int)+e.dx*((m:Int)*m)+e.dy*m
 | 0=>by simp [rows,sumN]
 | m+1=>by
  have ih:=rows_in h m
  have f:=first_spec h (e.y+m)
  rw [num_at] at f
  have e1:rows e (m+1)=rows e m+e.first (e.y+m):=rfl
  have e2:((m+1:Nat):Int)*((m+1:Nat):Int)=(m:Int)*m+(2*(m:Int)+1):=by
   show ((m:Int)+1)*((m:Int)+1)=_
   rw [Int.add_mul,Int.mul_add]; omega
  have e3:((m+1:Nat):Int)=(m:Int)+1:=rfl
  rw [e1,e2,e3]
  simp only [Int.mul_add,Int.mul_one] at f ih ⊢
  omega
theorem edge_rows {e:Ed}(h:e.ok) : -e.dy<=2*rows e e.dy.toNat-e.dy*(2*e.x+e.dx)/\2*rows e e.dy.toNat-e.dy*(2*e.x+e.dx)<=e.dy:=by
 have hd:=h.2.2.1.1
 have r:=rows_in h e.dy.toNat
 have ed:((e.dy.toNat:Nat):Int)=e.dy:=by omega
 rw [ed] at r
 generalize rows e e.dy.toNat=F at *
 have k1:e.dy*(2*F-e.dy*(2*e.x+e.dx))=2*e.dy*F-(2*e.dy*e.x*e.dy+e.dx*(e.dy*e.dy)):=by grind
 refine ⟨Int.le_of_mul_le_mul_left (a:=e.dy) ?_ (by omega),Int.le_of_mul_le_mul_left (a:=e.dy) ?_ (by omega)⟩
 ·rw [k1,Int.mul_neg]; omega
 ·rw [k1]; omega
theorem sl_add (φ ψ:Ed->Int) (L:List Ed):sl (fun e=>φ e+ψ e) L=sl φ L+sl ψ L:=by
 induction L with
 | nil=>rfl
 | cons e L ih=>simp only [sl,ih]; omega
theorem sl_le {φ ψ:Ed->Int}:∀ {L:List Ed},(∀ e∈L,φ e<=ψ e)->sl φ L<=sl ψ L
 | [],_=>Int.le_refl _
 | e::L,h=>by
  have:=sl_le (L:=L) (fun e he=>h e (List.mem_cons_of_mem _ he))
  have:=h e List.mem_cons_self
  show φ e+sl φ L<=ψ e+sl ψ L
  omega
theorem sl_congr {φ ψ:Ed->Int}:∀ {L:List Ed},(∀ e∈L,φ e=ψ e)->sl φ L=sl ψ L
 | [],_=>rfl
 | e::L,h=>by
  show φ e+sl φ L=ψ e+sl ψ L
  rw [sl_congr (L:=L) (fun e he=>h e (List.mem_cons_of_mem _ he)),h e List.mem_cons_self]
def arE (e:Ed):Int:=e.s*(e.dy*(2*e.x+e.dx))
def abH (a b:Pt):Int:=if 0<=b.y-a.y then b.y-a.y else -(b.y-a.y)
theorem ar_mkE (a b:Pt):sl arE (mkE a b)=a.x*a.y*(-1)-b.x*b.y*(-1)-cr a b:=by
 unfold mkE
 split
 ·show 1*((b.y-a.y)*(2*a.x+(b.x-a.x)))+0=_
  unfold cr
  grind
 ·split
  ·show -1*((a.y-b.y)*(2*b.x+(a.x-b.x)))+0=_
   unfold cr
   grind
  ·show (0:Int)=_
   have:a.y=b.y:=by omega
   unfold cr
   rw [this]
   grind
theorem dy_mkE (a b:Pt):sl (·.dy) (mkE a b)=abH a b:=by
 unfold mkE abH
 split
 ·show b.y-a.y+0=_
  rw [if_pos (by omega)]; omega
 ·split
  ·show a.y-b.y+0=_
   rw [if_neg (by omega)]; omega
  ·show (0:Int)=_
   split<;>omega
theorem sl_li2 {φ:Ed->Int}{ψ:Pt->Pt->Int}(h:∀ a b,sl φ (mkE a b)=ψ a b) (l:Li):∀ j,sl φ (l.ed j)=sumN (fun i=>ψ (l.f i) (l.f ((i+1) % l.n))) j
 | 0=>rfl
 | j+1=>by
  show sl φ (l.ed j++_)=_+_
  rw [sl_app,sl_li2 h l j,h]
theorem liAr_sum (l:Li):∀ j,liAr l j=sumN (fun i=>cr (l.f i) (l.f ((i+1) % l.n))) j
 | 0=>rfl
 | j+1=>by
  show liAr l j+_=_+_
  rw [liAr_sum l j]
theorem ar_li (l:Li):sl arE (l.ed l.n) = -liAr l l.n:=by
 rw [sl_li2 ar_mkE,liAr_sum]
 have e:sumN (fun i=>(l.f i).x*(l.f i).y*(-1)-(l.f ((i+1) % l.n)).x*(l.f ((i+1) % l.n)).y*(-1)-cr (l.f i) (l.f ((i+1) % l.n))) l.n
   = sumN (fun i=>(l.f i).x*(l.f i).y*(-1)-(l.f ((i+1) % l.n)).x*(l.f ((i+1) % l.n)).y*(-1)) l.n-sumN (fun i=>cr (l.f i) (l.f ((i+1) % l.n))) l.n:=
  sumN_sub (fun i=>(l.f i).x*(l.f i).y*(-1)-(l.f ((i+1) % l.n)).x*(l.f ((i+1) % l.n)).y*(-1)) (fun i=>cr (l.f i) (l.f ((i+1) % l.n))) l.n
 rw [e,sumN_sub (fun i=>(l.f i).x*(l.f i).y*(-1)) (fun i=>(l.f ((i+1) % l.n)).x*(l.f ((i+1) % l.n)).y*(-1)),cyc (fun i=>(l.f i).x*(l.f i).y*(-1))]
 omega
theorem ar_lns (g:Lns):∀ i,sl arE (g.ed i) = -lnAr g i
 | 0=>rfl
 | i+1=>by
  show sl arE (g.ed i++_) = -(lnAr g i+_)
  rw [sl_app,ar_lns g i,ar_li]
  omega
def liH (l:Li):Nat->Int
 | 0=>0
 | j+1=>liH l j+abH (l.f j) (l.f ((j+1) % l.n))
def lnH (g:Lns):Nat->Int
 | 0=>0
 | i+1=>lnH g i+liH (g.f i) (g.f i).n
theorem dy_li (l:Li):∀ j,sl (·.dy) (l.ed j)=liH l j
 | 0=>rfl
 | j+1=>by
  show sl (·.dy) (l.ed j++_)=liH l j+_
  rw [sl_app,dy_li l j,dy_mkE]
theorem dy_lns (g:Lns):∀ i,sl (·.dy) (g.ed i)=lnH g i
 | 0=>rfl
 | i+1=>by
  show sl (·.dy) (g.ed i++_)=lnH g i+_
  rw [sl_app,dy_lns g i,dy_li]
end Go.Proofs.YtmhofgchidojoaaGreat.Flr
set_option linter.unusedSimpArgs false
set_option linter.unusedVariables false
namespace Go.Proofs.YtmhofgchidojoaaGreat.Flu
set_option maxRecDepth 100000
open Con Rga Rgl Rgn Fla Flb Flc Fld Fle Flp Flf Flg Flr
theorem exists_runs' {χ:Int->Int->Bool}{lo:Int}{N:Nat}(hlo:lo = -8192) (hN:(N:Int)=16384) (h:∀ y x,χ y x=true->(lo<=y/\y<lo+N)/\lo<=x/\x<lo+N):∃ L,vld L/\∀ y x,mem L y x=χ y x:=by
 have cells:∀ (y:Int),lo<=y->y<lo+N->(∃ L,vld L/\∀ y' x,mem L y' x=(χ y' x&&decide (y'<y)))->∀ n:Nat,n<=N->∃ L,vld L/\∀ y' x,mem L y' x=(χ y' x&&(decide (y'<y)||decide (y'=y/\x<lo+n))):=by
  intro y h1 h2 hL n
  induction n with
  | zero=>
   intro _
   obtain ⟨L,hv,hm⟩:=hL
   refine ⟨L,hv,fun y' x=>?_⟩
   rw [hm]
   cases hc:χ y' x with
   | false=>rfl
   | true=>
    have:=h _ _ hc
    have e:decide (y'=y/\x<lo+((0:Nat):Int))=false:=decide_eq_false (by omega)
    rw [e,Bool.or_false]
  | succ n ih=>
   intro hn
   obtain ⟨L,hv,hm⟩:=ih (by omega)
   by_cases hc:χ y (lo+n)=true
   ·have haft:aft L y (lo+n):=by
     intro r hr
     have hmem:r∈L:=List.mem_of_getLast? hr
     have ho:=hv.1 r hmem
     have hin:mem L r.y r.x0=true:=(mem_iff _ _ _).2 ⟨r,hmem,rfl,Int.le_refl _,ho.2⟩
     rw [hm,Bool.and_eq_true,Bool.or_eq_true,decide_eq_true_iff,decide_eq_true_iff] at hin
     omega
    obtain ⟨q1,q2,_⟩:=add_ok hv (r:=⟨y,lo+n,lo+n+1⟩) (fun _=>⟨⟨⟨by show -8192<=y; omega,by show y<8192; omega⟩,⟨show -8192<=lo+(n:Int) by omega,show lo+(n:Int)<=8192 by omega⟩,show -8192<=lo+(n:Int)+1 by omega,show lo+(n:Int)+1<=8192 by omega⟩,show lo+(n:Int)<lo+(n:Int)+1 by omega⟩) haft
    refine ⟨_,q1,fun y' x=>?_⟩
    rw [q2,hm]
    have hir:inR ⟨y,lo+n,lo+n+1⟩ y' x=decide (y=y'/\lo+(n:Int)<=x/\x<lo+n+1):=rfl
    rw [hir]
    by_cases e:y'=y/\x=lo+n
    ·obtain ⟨rfl,rfl⟩:=e
     rw [hc,decide_eq_true (show y'=y'/\lo+(n:Int)<=lo+n/\lo+(n:Int)<lo+n+1 by omega),decide_eq_true (show y'=y'/\lo+(n:Int)<lo+((n+1:Nat):Int) by omega)]
     simp
    ·rw [decide_eq_false (show ¬ (y=y'/\lo+(n:Int)<=x/\x<lo+n+1) by omega),Bool.or_false]
     congr 2
     rw [Bool.eq_iff_iff,decide_eq_true_iff,decide_eq_true_iff]
     omega
   ·refine ⟨L,hv,fun y' x=>?_⟩
    rw [hm]
    by_cases e:y'=y/\x=lo+n
    ·obtain ⟨rfl,rfl⟩:=e
     rw [Bool.not_eq_true] at hc
     rw [hc]; rfl
    ·congr 2
     rw [Bool.eq_iff_iff,decide_eq_true_iff,decide_eq_true_iff]
     omega
 have rws:∀ n:Nat,n<=N->∃ L,vld L/\∀ y' x,mem L y' x=(χ y' x&&decide (y'<lo+n)):=by
  intro n
  induction n with
  | zero=>
   intro _
   refine ⟨[],vld_nil,fun y' x=>?_⟩
   show false=_
   cases hc:χ y' x with
   | false=>rfl
   | true=>
    have:=h _ _ hc
    rw [decide_eq_false (by omega)]; rfl
  | succ n ih=>
   intro hn
   obtain ⟨L,hv,hm⟩:=cells (lo+n) (by omega) (by omega) (ih (by omega)) N (Nat.le_refl _)
   refine ⟨L,hv,fun y' x=>?_⟩
   rw [hm]
   cases hc:χ y' x with
   | false=>rfl
   | true=>
    have:=h _ _ hc
    rw [Bool.true_and,Bool.true_and,Bool.eq_iff_iff,Bool.or_eq_true,decide_eq_true_iff,decide_eq_true_iff,decide_eq_true_iff]
    omega
 obtain ⟨L,hv,hm⟩:=rws N (Nat.le_refl _)
 refine ⟨L,hv,fun y x=>?_⟩
 rw [hm]
 cases hc:χ y x with
 | false=>rfl
 | true=>
  have:=h _ _ hc
  rw [decide_eq_true (by omega)]; rfl
theorem exists_runs {χ:Int->Int->Bool}(h:∀ y x,χ y x=true->(-8192<=y/\y<8192)/\ -8192<=x/\x<8192):∃ L,vld L/\∀ y x,mem L y x=χ y x:=by
 obtain ⟨N,hN⟩:∃ N:Nat,(N:Int)=16384:=⟨16384,rfl⟩
 exact exists_runs' (lo:= -8192) rfl hN fun y x hc=>by have:=h y x hc; omega
theorem ofSet_mem {χ:Int->Int->Bool}(h:∀ y x,χ y x=true->(-8192<=y/\y<8192)/\ -8192<=x/\x<8192) (y x:Int):mem (ofSet χ) y x=χ y x:=by
 obtain ⟨L,h1,h2⟩:=exists_runs h
 rw [ofSet_eq h1 h2,h2]
theorem chi_sq {ins:Int->Bool}{f:Nat->Ed}{n:Nat}(y x:Int) (h:chi ins f n y x=true):(-8192<=y/\y<8192)/\ -8192<=x/\x<8192:=by
 unfold chi at h
 rw [Bool.and_eq_true,decide_eq_true_iff] at h
 exact h.1
theorem fill_mem (ins:Int->Bool) (g:Lns) (y x:Int):mem (fillL ins g) y x=chi ins (eI g.E) g.E.length y x:=ofSet_mem chi_sq y x
theorem fill_vld (ins:Int->Bool) (g:Lns):vld (fillL ins g):=ofSet_vld _
theorem fill_area (ins:Int->Bool) (g:Lns):areaL (fillL ins g)=cnt (chi ins (eI g.E) g.E.length):=by
 rw [area_cnt _ (fill_vld ins g)]
 congr 1
 funext y x
 exact fill_mem ins g y x
def fy (a b:Pt) (y:Int):Int:=if a.y<b.y then Ed.first ⟨a.x,a.y,b.y,b.x-a.x,b.y-a.y,1⟩ y else Ed.first ⟨b.x,b.y,a.y,a.x-b.x,a.y-b.y,-1⟩ y
def cellE (y x:Int) (e:Ed):Int:=if Ed.on e y=true/\e.first y<=x then e.s else 0
def wgt (y:Int) (e:Ed):Int:=if Ed.on e y=true then e.s*e.first y else 0
theorem cell_mkE (y x:Int) (a b:Pt):sl (cellE y x) (mkE a b)=if fy a b y<=x then up y a-up y b else 0:=by
 unfold mkE fy
 split
 ·show cellE y x _+0=_
  unfold cellE up Ed.on
  simp only [decide_eq_true_eq]
  generalize Ed.first _ y=F
  repeat' split
  all_goals omega
 ·split
  ·show cellE y x _+0=_
   unfold cellE up Ed.on
   simp only [decide_eq_true_eq]
   generalize Ed.first _ y=F
   repeat' split
   all_goals omega
  ·show (0:Int)=_
   unfold up
   repeat' split
   all_goals omega
theorem wgt_mkE (y:Int) (a b:Pt):sl (wgt y) (mkE a b)=(up y a-up y b)*fy a b y:=by
 unfold mkE fy
 split
 ·show wgt y _+0=_
  unfold wgt up Ed.on
  simp only [decide_eq_true_eq]
  generalize Ed.first _ y=F
  repeat' split
  all_goals first | omega | (exfalso; omega)
 ·split
  ·show wgt y _+0=_
   unfold wgt up Ed.on
   simp only [decide_eq_true_eq]
   generalize Ed.first _ y=F
   repeat' split
   all_goals first | omega | (exfalso; omega)
  ·show (0:Int)=_
   unfold up
   repeat' split
   all_goals first | (simp; done) | (exfalso; omega)
theorem first_mono {e e':Ed}(h:e.ok) (h':e'.ok) {y:Int}(hn:(e.num y+e.dy)*e'.dy<=(e'.num y+e'.dy)*e.dy):e.first y<=e'.first y:=by
 have f:=first_spec h y
 have f':=first_spec h' y
 have d:=h.2.2.1.1
 have d':=h'.2.2.1.1
 refine Int.not_lt.1 fun hc=>?_
 generalize e.first y=F at *
 generalize e'.first y=F' at *
 have a0:=Int.mul_le_mul_of_nonneg_left (show F'+1<=F by omega) (show 0<=2*e'.dy by omega)
 rw [Int.mul_add,Int.mul_one] at a0
 have a1:2*e.dy*F-e.dy<e.num y+e.dy:=by omega
 have a2:e'.num y+e'.dy<=2*e'.dy*F-e'.dy:=by omega
 have b1:=Int.mul_lt_mul_of_pos_right a1 (show 0<e'.dy by omega)
 have b2:=Int.mul_le_mul_of_nonneg_right a2 (show 0<=e.dy by omega)
 have c:(2*e.dy*F-e.dy)*e'.dy=(2*e'.dy*F-e'.dy)*e.dy:=by grind
 omega
def Dt (a b c:Pt):Int:=cr a b+cr b c+cr c a
theorem pair {a b c:Pt}{y:Int}(ha:small 4000 a) (hb:small 4000 b) (hc:small 4000 c) (hu:up y a=up y c) (hne:up y a≠up y b) :
  (0<=Dt a b c->(up y a-up y b)*(fy a b y-fy b c y)<=0)/\(Dt a b c<=0->0<=(up y a-up y b)*(fy a b y-fy b c y)):=by
 obtain ⟨⟨a1,a2⟩,a3,a4⟩:=ha
 obtain ⟨⟨b1,b2⟩,b3,b4⟩:=hb
 obtain ⟨⟨c1,c2⟩,c3,c4⟩:=hc
 unfold up at hu hne ⊢
 by_cases hy:a.y<=y
 ·rw [if_pos hy] at hu hne ⊢
  have hcy:c.y<=y:=Classical.byContradiction fun h=>by rw [if_neg h] at hu; cases hu
  have hby:¬ b.y<=y:=fun h=>by rw [if_pos h] at hne; exact hne rfl
  rw [if_neg hby]
  unfold fy
  rw [if_pos (by omega),if_neg (by omega)]
  have o1:Ed.ok ⟨a.x,a.y,b.y,b.x-a.x,b.y-a.y,1⟩:=⟨⟨⟨by show -32767<=a.x; omega,by show a.x<=32767; omega⟩,⟨by show -32767<=a.y; omega,by show a.y<=32767; omega⟩,by show b.y<=32767; omega⟩,⟨by show -65534<=b.x-a.x; omega,by show b.x-a.x<=65534; omega⟩,⟨by show 1<=b.y-a.y; omega,by show b.y=a.y+(b.y-a.y); omega⟩,.inl rfl⟩
  have o2:Ed.ok ⟨c.x,c.y,b.y,b.x-c.x,b.y-c.y,-1⟩:=⟨⟨⟨by show -32767<=c.x; omega,by show c.x<=32767; omega⟩,⟨by show -32767<=c.y; omega,by show c.y<=32767; omega⟩,by show b.y<=32767; omega⟩,⟨by show -65534<=b.x-c.x; omega,by show b.x-c.x<=65534; omega⟩,⟨by show 1<=b.y-c.y; omega,by show b.y=c.y+(b.y-c.y); omega⟩,.inr rfl⟩
  have id1:(Ed.num ⟨a.x,a.y,b.y,b.x-a.x,b.y-a.y,1⟩ y+(b.y-a.y))*(b.y-c.y)-(Ed.num ⟨c.x,c.y,b.y,b.x-c.x,b.y-c.y,-1⟩ y+(b.y-c.y))*(b.y-a.y) = -((2*(b.y-y)-1)*Dt a b c):=by
   unfold Ed.num Dt cr
   grind
  refine ⟨fun hD=>?_,fun hD=>?_⟩
  ·have:=Int.mul_nonneg (show 0<=2*(b.y-y)-1 by omega) hD
   have:=first_mono o1 o2 (y:=y) (by show (_+(b.y-a.y))*(b.y-c.y)<=(_+(b.y-c.y))*(b.y-a.y); omega)
   omega
  ·have:=Int.mul_nonneg (show 0<=2*(b.y-y)-1 by omega) (show 0<= -Dt a b c by omega)
   rw [Int.mul_neg] at this
   have:=first_mono o2 o1 (y:=y) (by show (_+(b.y-c.y))*(b.y-a.y)<=(_+(b.y-a.y))*(b.y-c.y); omega)
   omega
 ·rw [if_neg hy] at hu hne ⊢
  have hcy:¬ c.y<=y:=fun h=>by rw [if_pos h] at hu; cases hu
  have hby:b.y<=y:=Classical.byContradiction fun h=>by rw [if_neg h] at hne; exact hne rfl
  rw [if_pos hby]
  unfold fy
  rw [if_neg (by omega),if_pos (by omega)]
  have o1:Ed.ok ⟨b.x,b.y,a.y,a.x-b.x,a.y-b.y,-1⟩:=⟨⟨⟨by show -32767<=b.x; omega,by show b.x<=32767; omega⟩,⟨by show -32767<=b.y; omega,by show b.y<=32767; omega⟩,by show a.y<=32767; omega⟩,⟨by show -65534<=a.x-b.x; omega,by show a.x-b.x<=65534; omega⟩,⟨by show 1<=a.y-b.y; omega,by show a.y=b.y+(a.y-b.y); omega⟩,.inr rfl⟩
  have o2:Ed.ok ⟨b.x,b.y,c.y,c.x-b.x,c.y-b.y,1⟩:=⟨⟨⟨by show -32767<=b.x; omega,by show b.x<=32767; omega⟩,⟨by show -32767<=b.y; omega,by show b.y<=32767; omega⟩,by show c.y<=32767; omega⟩,⟨by show -65534<=c.x-b.x; omega,by show c.x-b.x<=65534; omega⟩,⟨by show 1<=c.y-b.y; omega,by show c.y=b.y+(c.y-b.y); omega⟩,.inl rfl⟩
  have id1:(Ed.num ⟨b.x,b.y,a.y,a.x-b.x,a.y-b.y,-1⟩ y+(a.y-b.y))*(c.y-b.y)-(Ed.num ⟨b.x,b.y,c.y,c.x-b.x,c.y-b.y,1⟩ y+(c.y-b.y))*(a.y-b.y)=(2*(y-b.y)+1)*Dt a b c:=by
   unfold Ed.num Dt cr
   grind
  refine ⟨fun hD=>?_,fun hD=>?_⟩
  ·have:=Int.mul_nonneg (show 0<=2*(y-b.y)+1 by omega) hD
   have:=first_mono o2 o1 (y:=y) (by show (_+(c.y-b.y))*(a.y-b.y)<=(_+(a.y-b.y))*(c.y-b.y); omega)
   omega
  ·have:=Int.mul_nonneg (show 0<=2*(y-b.y)+1 by omega) (show 0<= -Dt a b c by omega)
   rw [Int.mul_neg] at this
   have:=first_mono o1 o2 (y:=y) (by show (_+(a.y-b.y))*(c.y-b.y)<=(_+(c.y-b.y))*(a.y-b.y); omega)
   omega
theorem up01 (y:Int) (p:Pt):up y p=0\/up y p=1:=by unfold up; split<;>simp
def Wt (p q r:Pt) (y:Int):Int:=(up y p-up y q)*fy p q y+(up y q-up y r)*fy q r y+(up y r-up y p)*fy r p y
def wt3 (p q r:Pt) (y x:Int):Int:=(if fy p q y<=x then up y p-up y q else 0)+(if fy q r y<=x then up y q-up y r else 0)+(if fy r p y<=x then up y r-up y p else 0)
def absI (x:Int):Int:=if 0<=x then x else -x
theorem Dt_rot (p q r:Pt):Dt q r p=Dt p q r:=by unfold Dt; omega
theorem Wt_sign {p q r:Pt}(hp:small 4000 p) (hq:small 4000 q) (hr:small 4000 r) (y:Int):(0<=Dt p q r->Wt p q r y<=0)/\(Dt p q r<=0->0<=Wt p q r y):=by
 have d1:=Dt_rot p q r
 have d2:=Dt_rot q r p
 have k1:=pair (y:=y) hp hq hr
 have k2:=pair (y:=y) hq hr hp
 have k3:=pair (y:=y) hr hp hq
 rw [d1] at k2
 rw [d2,d1] at k3
 unfold Wt
 rcases up01 y p with e1 | e1<;>rcases up01 y q with e2 | e2<;>rcases up01 y r with e3 | e3<;>simp only [e1,e2,e3] at k1 k2 k3 ⊢<;>simp at k1 k2 k3 ⊢<;>first | omega | (constructor<;>intro h<;>omega)
theorem first_M {e:Ed}(h:e.ok) {M y:Int}(hx : -M<=e.x/\e.x<=M) (hx2 : -M<=e.x+e.dx/\e.x+e.dx<=M) (hy:e.y<=y/\y<e.en) : -M<=e.first y/\e.first y<=M:=by
 have f:=first_spec h y
 have hd:=h.2.2.1
 have en:e.num y=2*e.dy*e.x+e.dx*(2*(y-e.y)+1)-e.dy:=rfl
 have ht:1<=2*(y-e.y)+1/\2*(y-e.y)+1<=2*e.dy:=by omega
 rw [en] at f
 generalize 2*(y-e.y)+1=t at *
 have p1:=Int.mul_nonneg (show 0<=e.x+M by omega) (show 0<=2*e.dy-t by omega)
 have p2:=Int.mul_nonneg (show 0<=e.x+e.dx+M by omega) (show 0<=t by omega)
 have p3:=Int.mul_nonneg (show 0<=M-e.x by omega) (show 0<=2*e.dy-t by omega)
 have p4:=Int.mul_nonneg (show 0<=M-(e.x+e.dx) by omega) (show 0<=t by omega)
 have n1:2*e.dy*e.x+e.dx*t+2*e.dy*M=(e.x+M)*(2*e.dy-t)+(e.x+e.dx+M)*t:=by grind
 have n2:2*e.dy*M-(2*e.dy*e.x+e.dx*t)=(M-e.x)*(2*e.dy-t)+(M-(e.x+e.dx))*t:=by grind
 generalize e.first y=F at *
 have g1:2*e.dy*(F+M+1)=2*e.dy*F+2*e.dy*M+2*e.dy:=by grind
 have g2:2*e.dy*(M+1-F)=2*e.dy*M+2*e.dy-2*e.dy*F:=by grind
 refine ⟨?_,?_⟩
 ·refine Int.not_lt.1 fun hc=>?_
  have:=Int.mul_le_mul_of_nonneg_left (show F+M+1<=0 by omega) (show 0<=2*e.dy by omega)
  rw [g1,Int.mul_zero] at this
  omega
 ·refine Int.not_lt.1 fun hc=>?_
  have:=Int.mul_le_mul_of_nonneg_left (show M+1-F<=0 by omega) (show 0<=2*e.dy by omega)
  rw [g2,Int.mul_zero] at this
  omega
theorem fy_in {a b:Pt}(ha:small 4000 a) (hb:small 4000 b) {y:Int}(hne:up y a≠up y b) : -8192<=fy a b y/\fy a b y<=8192:=by
 obtain ⟨⟨a1,a2⟩,a3,a4⟩:=ha
 obtain ⟨⟨b1,b2⟩,b3,b4⟩:=hb
 unfold up at hne
 unfold fy
 by_cases hy:a.y<=y
 ·rw [if_pos hy] at hne
  have hby:¬ b.y<=y:=fun h=>by rw [if_pos h] at hne; exact hne rfl
  rw [if_pos (by omega)]
  have o1:Ed.ok ⟨a.x,a.y,b.y,b.x-a.x,b.y-a.y,1⟩:=⟨⟨⟨by show -32767<=a.x; omega,by show a.x<=32767; omega⟩,⟨by show -32767<=a.y; omega,by show a.y<=32767; omega⟩,by show b.y<=32767; omega⟩,⟨by show -65534<=b.x-a.x; omega,by show b.x-a.x<=65534; omega⟩,⟨by show 1<=b.y-a.y; omega,by show b.y=a.y+(b.y-a.y); omega⟩,.inl rfl⟩
  have:=first_M o1 (M:=4000) (y:=y) ⟨a1,a2⟩ ⟨by show -4000<=a.x+(b.x-a.x); omega,by show a.x+(b.x-a.x)<=4000; omega⟩ ⟨hy,by show y<b.y; omega⟩
  omega
 ·rw [if_neg hy] at hne
  have hby:b.y<=y:=Classical.byContradiction fun h=>by rw [if_neg h] at hne; exact hne rfl
  rw [if_neg (by omega)]
  have o1:Ed.ok ⟨b.x,b.y,a.y,a.x-b.x,a.y-b.y,-1⟩:=⟨⟨⟨by show -32767<=b.x; omega,by show b.x<=32767; omega⟩,⟨by show -32767<=b.y; omega,by show b.y<=32767; omega⟩,by show a.y<=32767; omega⟩,⟨by show -65534<=a.x-b.x; omega,by show a.x-b.x<=65534; omega⟩,⟨by show 1<=a.y-b.y; omega,by show a.y=b.y+(a.y-b.y); omega⟩,.inr rfl⟩
  have:=first_M o1 (M:=4000) (y:=y) ⟨b1,b2⟩ ⟨by show -4000<=b.x+(a.x-b.x); omega,by show b.x+(a.x-b.x)<=4000; omega⟩ ⟨hby,by show y<a.y; omega⟩
  omega
theorem two {F F' s:Int}(h : -8192<=F/\F<=8192) (h' : -8192<=F'/\F'<=8192) (hs:s=1\/s = -1) {w:Int->Int}(hw:∀ x,w x=(if F<=x then s else 0)+(if F'<=x then -s else 0)) :
  sumR (fun x=>b2i (decide (w x≠0))) (-8192) 16384=absI (s*(F-F')):=by
 have run:∀ a b:Int,-8192<=a->a<=b->b<=8192->sumR (fun x=>b2i (decide (a<=x/\x<b))) (-8192) 16384=b-a:=fun a b h1 h2 h3=>by
  rw [sumR_run a b (-8192) h2]
  split
  ·omega
  ·split
   ·omega
   ·repeat' split
    all_goals omega
 by_cases hle:F<=F'
 ·rw [sumR_congr (g:=fun x=>b2i (decide (F<=x/\x<F'))) _ (fun x _ _=>by
   congr 1
   rw [Bool.eq_iff_iff,decide_eq_true_iff,decide_eq_true_iff,hw]
   split<;>split<;>omega),run F F' h.1 hle h'.2]
  unfold absI
  rcases hs with rfl | rfl<;>split<;>omega
 ·rw [sumR_congr (g:=fun x=>b2i (decide (F'<=x/\x<F))) _ (fun x _ _=>by
   congr 1
   rw [Bool.eq_iff_iff,decide_eq_true_iff,decide_eq_true_iff,hw]
   split<;>split<;>omega),run F' F h'.1 (by omega) h.2]
  unfold absI
  rcases hs with rfl | rfl<;>split<;>omega
theorem row_cnt {p q r:Pt}(hp:small 4000 p) (hq:small 4000 q) (hr:small 4000 r) (y:Int):sumR (fun x=>b2i (decide (wt3 p q r y x≠0))) (-8192) 16384=absI (Wt p q r y):=by
 have b1:=fy_in (y:=y) hp hq
 have b2:=fy_in (y:=y) hq hr
 have b3:=fy_in (y:=y) hr hp
 have none:∀ w:Int->Int,(∀ x,w x=0)->sumR (fun x=>b2i (decide (w x≠0))) (-8192) 16384=0:=fun w hw=>(sumR_congr (g:=fun _=>0) _ (fun x _ _=>by rw [hw]; rfl)).trans (sumR_zero _ _)
 have e:∀ x,wt3 p q r y x=(if fy p q y<=x then up y p-up y q else 0)+(if fy q r y<=x then up y q-up y r else 0)+(if fy r p y<=x then up y r-up y p else 0):=fun _=>rfl
 have eW:Wt p q r y=(up y p-up y q)*fy p q y+(up y q-up y r)*fy q r y+(up y r-up y p)*fy r p y:=rfl
 generalize wt3 p q r y=w at *
 rw [eW]
 clear eW
 generalize fy p q y=f1 at *
 generalize fy q r y=f2 at *
 generalize fy r p y=f3 at *
 rcases up01 y p with e1 | e1<;>rcases up01 y q with e2 | e2<;>rcases up01 y r with e3 | e3<;>simp only [e1,e2,e3] at b1 b2 b3 e ⊢
 ·rw [none w (fun x=>by rw [e]; split<;>split<;>split<;>rfl)]; simp [absI]
 ·rw [two (s:= -1) (b2 (by decide)) (b3 (by decide)) (.inr rfl) (fun x=>by rw [e]; split<;>split<;>split<;>omega)]; congr 1; omega
 ·rw [two (s:= -1) (b1 (by decide)) (b2 (by decide)) (.inr rfl) (fun x=>by rw [e]; split<;>split<;>split<;>omega)]; congr 1; omega
 ·rw [two (s:= -1) (b1 (by decide)) (b3 (by decide)) (.inr rfl) (fun x=>by rw [e]; split<;>split<;>split<;>omega)]; congr 1; omega
 ·rw [two (s:=1) (b1 (by decide)) (b3 (by decide)) (.inl rfl) (fun x=>by rw [e]; split<;>split<;>split<;>omega)]; congr 1; omega
 ·rw [two (s:=1) (b1 (by decide)) (b2 (by decide)) (.inl rfl) (fun x=>by rw [e]; split<;>split<;>split<;>omega)]; congr 1; omega
 ·rw [two (s:=1) (b2 (by decide)) (b3 (by decide)) (.inl rfl) (fun x=>by rw [e]; split<;>split<;>split<;>omega)]; congr 1; omega
 ·rw [none w (fun x=>by rw [e]; split<;>split<;>split<;>rfl)]; simp [absI]
theorem sumR_N (f:Int->Int) (lo:Int):∀ n:Nat,sumR f lo n=sumN (fun j=>f (lo+j)) n
 | 0=>rfl
 | n+1=>by
  show sumR f lo n+f (lo+n)=sumN (fun j=>f (lo+j)) n+f (lo+n)
  rw [sumR_N f lo n]
theorem sumR_sl (φ:Int->Ed->Int) (lo:Int) (n:Nat):∀ L:List Ed,sumR (fun y=>sl (φ y) L) lo n=sl (fun e=>sumR (fun y=>φ y e) lo n) L
 | []=>sumR_zero lo n
 | e::L=>by
  show sumR (fun y=>φ y e+sl (φ y) L) lo n=_+_
  rw [sumR_add (fun y=>φ y e) (fun y=>sl (φ y) L),sumR_sl φ lo n L]
theorem wgt_rows {e:Ed}(h:e.ok) (hy : -8192<=e.y/\e.en<=8192):sumR (fun y=>wgt y e) (-8192) 16384=e.s*rows e e.dy.toNat:=by
 have hd:=h.2.2.1
 rw [sumR_N]
 have e1:sumN (fun j:Nat=>wgt (-8192+(j:Int)) e) 16384=sumN (fun j=>if (e.y+8192).toNat<=j/\j<(e.y+8192).toNat+e.dy.toNat then e.s*e.first (-8192+(j:Int)) else 0) 16384:=sumN_congr fun j _=>by
  unfold wgt Ed.on
  simp only [decide_eq_true_eq]
  by_cases hc:e.y<= -8192+(j:Int)/\ -8192+(j:Int)<e.en
  ·rw [if_pos hc,if_pos (by omega)]
  ·rw [if_neg hc,if_neg (by omega)]
 rw [e1,strip (fun j=>e.s*e.first (-8192+(j:Int)))]
 rw [show min 16384 ((e.y+8192).toNat+e.dy.toNat)-(e.y+8192).toNat=e.dy.toNat by omega,sumN_mul]
 congr 1
 exact sumN_congr fun k _=>by rw [show -8192+(((e.y+8192).toNat+k:Nat):Int)=e.y+k by omega]
structure IsTri (g:Lns) (p q r:Pt):Prop where
 n:g.n=1
 m:(g.f 0).n=3
 p0:(g.f 0).f 0=p
 p1:(g.f 0).f 1=q
 p2:(g.f 0).f 2=r
theorem IsTri.E {g:Lns}{p q r:Pt}(h:IsTri g p q r):g.E=(mkE p q++mkE q r)++mkE r p:=by
 unfold Lns.E
 rw [h.n]
 show []++(g.f 0).ed (g.f 0).n=_
 rw [h.m]
 show []++(((([]:List Ed)++mkE ((g.f 0).f 0) ((g.f 0).f ((0+1) % (g.f 0).n)))++mkE ((g.f 0).f 1) ((g.f 0).f ((1+1) % (g.f 0).n)))++mkE ((g.f 0).f 2) ((g.f 0).f ((2+1) % (g.f 0).n)))=_
 rw [h.m]
 show []++(((([]:List Ed)++mkE ((g.f 0).f 0) ((g.f 0).f 1))++mkE ((g.f 0).f 1) ((g.f 0).f 2))++mkE ((g.f 0).f 2) ((g.f 0).f 0))=_
 rw [h.p0,h.p1,h.p2]
 rfl
theorem IsTri.fin {g:Lns}{p q r:Pt}(h:IsTri g p q r) (hp:small 4000 p) (hq:small 4000 q) (hr:small 4000 r):g.fin:=by
 have up:∀ {p:Pt},small 4000 p->small 32767 p:=fun h=>⟨⟨by have:=h.1.1; omega,by have:=h.1.2; omega⟩,by have:=h.2.1; omega,by have:=h.2.2; omega⟩
 refine ⟨by rw [h.n]; decide,fun i hi=>?_⟩
 obtain rfl:i=0:=by have:=h.n; omega
 refine ⟨by rw [h.m]; decide,fun i hi=>?_⟩
 rw [h.m] at hi
 match i,hi with
 | 0,_=>rw [h.p0]; exact up hp
 | 1,_=>rw [h.p1]; exact up hq
 | 2,_=>rw [h.p2]; exact up hr
theorem IsTri.len {g:Lns}{p q r:Pt}(h:IsTri g p q r):g.E.length<=3:=by
 rw [h.E,List.length_append,List.length_append]
 have:=mkE_len p q
 have:=mkE_len q r
 have:=mkE_len r p
 omega
theorem mkE_y {a b:Pt}(ha:small 4000 a) (hb:small 4000 b):∀ e∈mkE a b,-8192<=e.y/\e.en<=8192:=by
 intro e he
 obtain ⟨_,a3,a4⟩:=ha
 obtain ⟨_,b3,b4⟩:=hb
 unfold mkE at he
 split at he
 ·rw [List.mem_singleton.1 he]
  exact ⟨show -8192<=a.y by omega,show b.y<=8192 by omega⟩
 ·split at he
  ·rw [List.mem_singleton.1 he]
   exact ⟨show -8192<=b.y by omega,show a.y<=8192 by omega⟩
  ·exact (List.not_mem_nil he).elim
theorem tri {g:Lns}{p q r:Pt}(h:IsTri g p q r) (hp:small 4000 p) (hq:small 4000 q) (hr:small 4000 r) :
  ∃ S:Int,(areaL (fillL ins1 g)=S\/areaL (fillL ins1 g) = -S)/\ -lnH g g.n<=2*S+lnAr g g.n/\2*S+lnAr g g.n<=lnH g g.n:=by
 have hf:=h.fin hp hq hr
 have hok:=Lns.ed_ok hf g.n (Nat.le_refl _)
 have hok:∀ e∈g.E,e.ok:=hok
 have hyy:∀ e∈g.E,-8192<=e.y/\e.en<=8192:=fun e he=>by
  rw [h.E] at he
  rcases List.mem_append.1 he with he | he
  ·rcases List.mem_append.1 he with he | he
   ·exact mkE_y hp hq e he
   ·exact mkE_y hq hr e he
  ·exact mkE_y hr hp e he
 have hw:∀ y x,wE (eI g.E) g.E.length y x=wt3 p q r y x:=fun y x=>by
  have:wE (eI g.E) g.E.length y x=sl (cellE y x) g.E:=sl_eI (cellE y x) g.E
  rw [this,h.E,sl_app,sl_app,cell_mkE,cell_mkE,cell_mkE]
  rfl
 have hW:∀ y,sl (wgt y) g.E=Wt p q r y:=fun y=>by
  rw [h.E,sl_app,sl_app,wgt_mkE,wgt_mkE,wgt_mkE]
  rfl
 have hc:areaL (fillL ins1 g)=sumR (fun y=>absI (Wt p q r y)) (-8192) 16384:=by
  rw [fill_area]
  unfold cnt
  refine sumR_congr _ fun y y1 y2=>?_
  rw [<-row_cnt hp hq hr y]
  refine sumR_congr _ fun x x1 x2=>?_
  congr 1
  unfold chi ins1
  rw [decide_eq_true (show (-8192<=y/\y<8192)/\ -8192<=x/\x<8192 by omega),Bool.true_and,hw]
 have hS:sumR (fun y=>Wt p q r y) (-8192) 16384=sl (fun e=>e.s*rows e e.dy.toNat) g.E:=by
  rw [sumR_congr (g:=fun y=>sl (wgt y) g.E) _ (fun y _ _=>(hW y).symm),sumR_sl wgt]
  exact sl_congr fun e he=>wgt_rows (hok e he) (hyy e he)
 have a1:sl arE g.E = -lnAr g g.n:=ar_lns g g.n
 have a3:sl (·.dy) g.E=lnH g g.n:=dy_lns g g.n
 have sneg:∀ (φ:Ed->Int) (L:List Ed),sl (fun e=> -φ e) L = -sl φ L:=fun φ L=>by
  induction L with
  | nil=>rfl
  | cons e L ih=>simp only [sl,ih]; omega
 have smul:∀ (φ:Ed->Int) (L:List Ed),sl (fun e=>2*φ e) L=2*sl φ L:=fun φ L=>by
  induction L with
  | nil=>rfl
  | cons e L ih=>simp only [sl,ih]; omega
 have key:∀ e∈g.E,-e.dy<=2*(e.s*rows e e.dy.toNat) + -arE e/\2*(e.s*rows e e.dy.toNat) + -arE e<=e.dy:=fun e he=>by
  have r:=edge_rows (hok e he)
  unfold arE
  rcases (hok e he).2.2.2 with q | q
  ·rw [q]; simp only [Int.one_mul]; omega
  ·rw [q]; simp only [Int.neg_mul,Int.one_mul]; omega
 have k1:=sl_le (L:=g.E) (φ:=fun e=> -e.dy) (ψ:=fun e=>2*(e.s*rows e e.dy.toNat) + -arE e) fun e he=>(key e he).1
 have k2:=sl_le (L:=g.E) (φ:=fun e=>2*(e.s*rows e e.dy.toNat) + -arE e) (ψ:=(·.dy)) fun e he=>(key e he).2
 rw [sneg (·.dy),a3,sl_add (fun e=>2*(e.s*rows e e.dy.toNat)) (fun e=> -arE e),smul (fun e=>e.s*rows e e.dy.toNat),sneg arE,a1] at k1
 rw [a3,sl_add (fun e=>2*(e.s*rows e e.dy.toNat)) (fun e=> -arE e),smul (fun e=>e.s*rows e e.dy.toNat),sneg arE,a1] at k2
 refine ⟨sl (fun e=>e.s*rows e e.dy.toNat) g.E,?_,by omega,by omega⟩
 rw [hc,<-hS]
 have neg:∀ n:Nat,sumR (fun y=> -Wt p q r y) (-8192) n = -sumR (fun y=>Wt p q r y) (-8192) n:=fun n=>by
  induction n with
  | zero=>rfl
  | succ n ih=>
   show sumR (fun y=> -Wt p q r y) (-8192) n + -Wt p q r (-8192+n) = -(sumR (fun y=>Wt p q r y) (-8192) n+Wt p q r (-8192+n))
   rw [ih]; omega
 rcases Int.le_total 0 (Dt p q r) with hD | hD
 ·refine .inr ?_
  rw [<-neg]
  refine sumR_congr _ fun y _ _=>?_
  have:=(Wt_sign hp hq hr y).1 hD
  unfold absI
  split<;>omega
 ·refine .inl ?_
  refine sumR_congr _ fun y _ _=>?_
  have:=(Wt_sign hp hq hr y).2 hD
  unfold absI
  rw [if_pos this]
end Go.Proofs.YtmhofgchidojoaaGreat.Flu
set_option linter.unusedSimpArgs false
set_option linter.unusedVariables false
namespace Go.Proofs.YtmhofgchidojoaaGreat.Stl
open Go.RowKit Sx Num Aff Con Rgl Rga Rgm Rgn Fla Fle Flp Flf Flu Sta Stb Stc Sto Ste
set_option maxRecDepth 100000
def cntE (f:Nat->Ed) (y x:Int):Nat->Nat
 | 0=>0
 | n+1=>cntE f y x n+(if Ed.on (f n) y=true/\(f n).first y<=x then 1 else 0)
theorem cntE_le (f:Nat->Ed) (y x:Int):∀ n,cntE f y x n<=n
 | 0=>Nat.le_refl _
 | n+1=>by
  have:=cntE_le f y x n
  show cntE f y x n+_<=n+1
  split<;>omega
theorem cntE_mono (f:Nat->Ed) (y:Int) {x x':Int}(h:x<=x'):∀ n,cntE f y x n<=cntE f y x' n
 | 0=>Nat.le_refl _
 | n+1=>by
  have:=cntE_mono f y h n
  show cntE f y x n+_<=cntE f y x' n+_
  by_cases h1:Ed.on (f n) y=true/\(f n).first y<=x
  ·rw [if_pos h1,if_pos ⟨h1.1,Int.le_trans h1.2 h⟩]; omega
  ·rw [if_neg h1]; omega
theorem cntE_eq (f:Nat->Ed) (y:Int) {x x':Int}(h:x<=x'):∀ n,cntE f y x n=cntE f y x' n->wE f n y x=wE f n y x'
 | 0,_=>rfl
 | n+1,he=>by
  have m:=cntE_mono f y h n
  have he:cntE f y x n+(if Ed.on (f n) y=true/\(f n).first y<=x then 1 else 0)=cntE f y x' n+(if Ed.on (f n) y=true/\(f n).first y<=x' then 1 else 0):=he
  have hn:(Ed.on (f n) y=true/\(f n).first y<=x)->(Ed.on (f n) y=true/\(f n).first y<=x'):=fun hh=>⟨hh.1,Int.le_trans hh.2 h⟩
  have ih:wE f n y x=wE f n y x':=cntE_eq f y h n (by
   by_cases h1:Ed.on (f n) y=true/\(f n).first y<=x
   ·rw [if_pos h1,if_pos (hn h1)] at he; omega
   ·rw [if_neg h1] at he; omega)
  show wE f n y x+(if Ed.on (f n) y=true/\(f n).first y<=x then (f n).s else 0)=wE f n y x'+(if Ed.on (f n) y=true/\(f n).first y<=x' then (f n).s else 0)
  rw [ih]
  by_cases h1:Ed.on (f n) y=true/\(f n).first y<=x
  ·rw [if_pos h1,if_pos (hn h1)]
  ·by_cases h2:Ed.on (f n) y=true/\(f n).first y<=x'
   ·rw [if_neg h1,if_pos h2] at he
    omega
   ·rw [if_neg h1,if_neg h2]
theorem pw_tri {α:Type}{P:α->α->Prop}:∀ {L:List α}{a b:α},L.Pairwise P->a∈L->b∈L->a≠b->P a b\/P b a
 | r::L,a,b,h,ha,hb,hne=>by
  obtain ⟨h1,h2⟩:=List.pairwise_cons.1 h
  rcases List.mem_cons.1 ha with ea | ha2
  ·rcases List.mem_cons.1 hb with eb | hb2
   ·exact absurd (ea.trans eb.symm) hne
   ·exact .inl (by rw [ea]; exact h1 b hb2)
  ·rcases List.mem_cons.1 hb with eb | hb2
   ·exact .inr (by rw [eb]; exact h1 a ha2)
   ·exact pw_tri h2 ha2 hb2 hne
def code (f:Nat->Ed) (n:Nat) (r:Rn):Nat:=(r.y+8192).toNat*(n+1)+cntE f r.y r.x0 n
theorem code_lt {ins:Int->Bool}{f:Nat->Ed}{n:Nat}{L:List Rn}(hv:vld L) (hm:∀ y x,mem L y x=chi ins f n y x) {r s:Rn}(hr:r∈L) (hs:s∈L) (h:ltR r s):code f n r<code f n s:=by
 obtain ⟨⟨⟨a1,a2⟩,⟨a3,a4⟩,a5,a6⟩,a7⟩:=hv.1 r hr
 obtain ⟨⟨⟨b1,b2⟩,⟨b3,b4⟩,b5,b6⟩,b7⟩:=hv.1 s hs
 have c1:=cntE_le f r.y r.x0 n
 rcases h with h | ⟨h,hx⟩
 ·have h1:(r.y+8192).toNat+1<=(s.y+8192).toNat:=by omega
  have h2:((r.y+8192).toNat+1)*(n+1)<=(s.y+8192).toNat*(n+1):=Nat.mul_le_mul_right _ h1
  rw [Nat.add_mul] at h2
  unfold code
  omega
 ·have hin:mem L s.y s.x0=true:=(mem_iff _ _ _).2 ⟨s,hs,rfl,Int.le_refl _,b7⟩
  have hout:mem L s.y (s.x0-1)=false:=Bool.eq_false_iff.2 fun hc=>by
   obtain ⟨t,ht,ty,t0,t1⟩:=(mem_iff _ _ _).1 hc
   have tri:t=s\/ltR t s\/ltR s t:=by
    by_cases e:t=s
    ·exact .inl e
    ·exact .inr (pw_tri hv.2 ht hs e)
   rcases tri with e | e | e
   ·rw [e] at t0; omega
   ·unfold ltR at e; omega
   ·unfold ltR at e; omega
  rw [hm] at hin hout
  have hne:cntE f s.y (s.x0-1) n≠cntE f s.y s.x0 n:=fun e=>by
   have ew:=cntE_eq f s.y (show s.x0-1<=s.x0 by omega) n e
   have i1:chi ins f n s.y s.x0=ins (wE f n s.y s.x0):=by
    unfold chi
    rw [decide_eq_true (show (-8192<=s.y/\s.y<8192)/\ -8192<=s.x0/\s.x0<8192 by omega),Bool.true_and]
   have i2:chi ins f n s.y (s.x0-1)=ins (wE f n s.y (s.x0-1)):=by
    unfold chi
    rw [decide_eq_true (show (-8192<=s.y/\s.y<8192)/\ -8192<=s.x0-1/\s.x0-1<8192 by omega),Bool.true_and]
   rw [i1,<-ew,<-i2,hout] at hin
   cases hin
  have m1:=cntE_mono f s.y (show s.x0-1<=s.x0 by omega) n
  have m2:=cntE_mono f s.y (show r.x0<=s.x0-1 by omega) n
  unfold code
  rw [h]
  omega
theorem rise {α:Type}(c:α->Nat) {N:Nat}:∀ (L:List α) (b:Nat),L.Pairwise (fun r s=>c r<c s)->(∀ r∈L,b<=c r/\c r<N)->L.length+b<=max N b
 | [],b,_,_=>by show 0+b<=_; omega
 | r::L,b,h,hb=>by
  obtain ⟨h1,h2⟩:=List.pairwise_cons.1 h
  have h0:=hb r (List.mem_cons_self ..)
  have:=rise c L (c r+1) h2 fun s hs=>⟨h1 s hs,(hb s (List.mem_cons_of_mem _ hs)).2⟩
  show L.length+1+b<=_
  omega
theorem pw_mem {α:Type}{P Q:α->α->Prop}:∀ {L:List α},L.Pairwise P->(∀ r∈L,∀ s∈L,P r s->Q r s)->L.Pairwise Q
 | [],_,_=>List.Pairwise.nil
 | r::L,h,hq=>by
  obtain ⟨h1,h2⟩:=List.pairwise_cons.1 h
  exact List.pairwise_cons.2 ⟨fun s hs=>hq r (List.mem_cons_self ..) s (List.mem_cons_of_mem _ hs) (h1 s hs),pw_mem h2 fun a ha b hb=>hq a (List.mem_cons_of_mem _ ha) b (List.mem_cons_of_mem _ hb)⟩
theorem fill_len (ins:Int->Bool) (g:Lns) {n:Nat}(hn:g.E.length=n):(fillL ins g).length<=16384*(n+1):=by
 have hv:=fill_vld ins g
 have hm:=fill_mem ins g
 rw [hn] at hm
 have h:=rise (code (eI g.E) n) (N:=16384*(n+1)) (fillL ins g) 0 (pw_mem hv.2 fun r hr s hs h=>code_lt hv hm hr hs h) fun r hr=>by
  obtain ⟨⟨⟨a1,a2⟩,-⟩,-⟩:=hv.1 r hr
  have c1:=cntE_le (eI g.E) r.y r.x0 n
  have h2:(r.y+8192).toNat*(n+1)<=16383*(n+1):=Nat.mul_le_mul_right _ (by omega)
  unfold code
  omega
 omega
def good (o:Olr):Prop:=(∀ t,t<o.n->o.m t<=4/\∀ j,j<o.m t->small 32767 (o.p t j))/\∀ t,t<o.k->small 32767 (o.d t)
theorem good_add {o:Olr}{l:Nat}{f:Nat->Pt}(h:good o) (hl:l<=4) (hf:∀ j,j<l->small 32767 (f j)):good (o.add l f):=by
 refine ⟨fun t ht=>?_,h.2⟩
 have ht:t<o.n+1:=ht
 show (bif decide (t=o.n) then l else o.m t)<=4/\∀ j,j<(bif decide (t=o.n) then l else o.m t)->small 32767 ⟨bif decide (t=o.n) then (f j).x else (o.p t j).x,bif decide (t=o.n) then (f j).y else (o.p t j).y⟩
 by_cases e:t=o.n
 ·rw [decide_eq_true e]; exact ⟨hl,hf⟩
 ·rw [decide_eq_false e]; exact h.1 t (by omega)
theorem good_dsc {o:Olr}{c:Pt}(h:good o) (hc:small 32767 c):good (o.dsc c):=by
 refine ⟨h.1,fun t ht=>?_⟩
 have ht:t<o.k+1:=ht
 show small 32767 ⟨bif decide (t<o.k) then (o.d t).x else c.x,bif decide (t<o.k) then (o.d t).y else c.y⟩
 by_cases e:t<o.k
 ·rw [decide_eq_true e]; exact h.2 t e
 ·rw [decide_eq_false e]; exact hc
theorem good_dsc2 {o:Olr}{a b:Pt}(h:good o) (ha:small 32767 a) (hb:small 32767 b):good (o.dsc2 a b):=by
 refine ⟨h.1,fun t ht=>?_⟩
 show small 32767 ⟨bif decide (t<o.k) then (o.d t).x else bif decide (t-o.k=1) then b.x else a.x,bif decide (t<o.k) then (o.d t).y else bif decide (t-o.k=1) then b.y else a.y⟩
 by_cases e:t<o.k
 ·rw [decide_eq_true e]; exact h.2 t e
 ·rw [decide_eq_false e]
  by_cases e2:t-o.k=1
  ·rw [decide_eq_true e2]; exact hb
  ·rw [decide_eq_false e2]; exact ha
theorem sm4 {M:Int}{a b c d:Pt}(ha:small M a) (hb:small M b) (hc:small M c) (hd:small M d):∀ j,j<4->small M (p4 a b c d j)
 | 0,_=>ha
 | 1,_=>hb
 | 2,_=>hc
 | 3,_=>hd
theorem sm3 {M:Int}{a b c:Pt}(ha:small M a) (hb:small M b) (hc:small M c):∀ j,j<3->small M (p3 a b c j)
 | 0,_=>ha
 | 1,_=>hb
 | 2,_=>hc
theorem sm_add {A B M:Int}{v n:Pt}{s:Int}(hs:s=1\/s = -1) (hv:small A v) (hn:small B n) (h:A+B<=M):small M (addP v (mulP s n)):=by
 obtain ⟨⟨a1,a2⟩,a3,a4⟩:=hv
 obtain ⟨⟨b1,b2⟩,b3,b4⟩:=hn
 rcases hs with rfl | rfl
 ·exact sm (by show -M<=v.x+1*n.x/\v.x+1*n.x<=M; omega) (by show -M<=v.y+1*n.y/\v.y+1*n.y<=M; omega)
 ·exact sm (by show -M<=v.x + -1*n.x/\v.x + -1*n.x<=M; omega) (by show -M<=v.y + -1*n.y/\v.y + -1*n.y<=M; omega)
theorem sm_addP {A B:Int}(M:Int) {v n:Pt}(hv:small A v) (hn:small B n) (h:A+B<=M):small M (addP v n):=by
 obtain ⟨⟨a1,a2⟩,a3,a4⟩:=hv
 obtain ⟨⟨b1,b2⟩,b3,b4⟩:=hn
 exact sm (by show -M<=v.x+n.x/\v.x+n.x<=M; omega) (by show -M<=v.y+n.y/\v.y+n.y<=M; omega)
theorem sm_subP {A B:Int}(M:Int) {v n:Pt}(hv:small A v) (hn:small B n) (h:A+B<=M):small M (subP v n):=by
 obtain ⟨⟨a1,a2⟩,a3,a4⟩:=hv
 obtain ⟨⟨b1,b2⟩,b3,b4⟩:=hn
 exact sm (by show -M<=v.x-n.x/\v.x-n.x<=M; omega) (by show -M<=v.y-n.y/\v.y-n.y<=M; omega)
theorem sq_le' {a b:Int}(hb:0<=b) (h:a*a<=b*b) : -b<=a/\a<=b:=by
 constructor
 ·refine Int.not_lt.1 fun hc=>?_
  have:(b+1)*(b+1)<=(-a)*(-a):=Int.mul_le_mul (by omega) (by omega) (by omega) (by omega)
  rw [Int.neg_mul_neg,Int.add_mul,Int.mul_add] at this
  omega
 ·refine Int.not_lt.1 fun hc=>?_
  have:(b+1)*(b+1)<=a*a:=Int.mul_le_mul (by omega) (by omega) (by omega) (by omega)
  rw [Int.add_mul,Int.mul_add] at this
  omega
theorem qs_in {q S x q':Int}(hq:0<=q/\q<=1800) (hq':q'<=1800) (hS:1<=S) (hx:x*x<=2*S+q'-q) : -31000*S<=q*x/\q*x<=31000*S:=by
 have c1:0<=(q-1200)*(q-1200)*(q+600):=Int.mul_nonneg (sqn _) (by omega)
 have c2:(q-1200)*(q-1200)*(q+600)=864000000-q*q*(1800-q):=by grind
 have c3:q*q*(x*x)<=q*q*(2*S+q'-q):=Int.mul_le_mul_of_nonneg_left hx (sqn q)
 have c4:q*q*(2*S+q'-q)<=q*q*(2*S+(1800-q)):=Int.mul_le_mul_of_nonneg_left (by omega) (sqn q)
 have c5:q*q*(2*S+(1800-q))=2*(q*q*S)+q*q*(1800-q):=by grind
 have c6:q*q<=1800*1800:=Int.mul_le_mul hq.2 hq.2 hq.1 (by omega)
 have c7:q*q*S<=1800*1800*S:=Int.mul_le_mul_of_nonneg_right c6 (by omega)
 have c8:S*1<=S*S:=Int.mul_le_mul_of_nonneg_left hS (by omega)
 have c9:(q*x)*(q*x)=q*q*(x*x):=by grind
 have c10:(31000*S)*(31000*S)=961000000*(S*S):=by grind
 have:=sq_le' (a:=q*x) (b:=31000*S) (by omega) (by omega)
 omega
theorem tip_in {a b:Sid}(ha:small 30 a.n) (hb:small 30 b.n) (hS:1<=dotP a.n a.n+dotP a.n b.n):small 31000 (tipP a b):=by
 obtain ⟨⟨a1,a2⟩,a3,a4⟩:=ha
 obtain ⟨⟨b1,b2⟩,b3,b4⟩:=hb
 have d1:=Fla.mul_in (a:=a.n.x) (x:=a.n.x) (A:=30) (X:=30) ⟨a1,a2⟩ ⟨a1,a2⟩
 have d2:=Fla.mul_in (a:=a.n.y) (x:=a.n.y) (A:=30) (X:=30) ⟨a3,a4⟩ ⟨a3,a4⟩
 have d3:=Fla.mul_in (a:=b.n.x) (x:=b.n.x) (A:=30) (X:=30) ⟨b1,b2⟩ ⟨b1,b2⟩
 have d4:=Fla.mul_in (a:=b.n.y) (x:=b.n.y) (A:=30) (X:=30) ⟨b3,b4⟩ ⟨b3,b4⟩
 have e1:=sqn a.n.x
 have e2:=sqn a.n.y
 have hq:0<=dotP a.n a.n/\dotP a.n a.n<=1800:=by unfold dotP; omega
 have hq':dotP b.n b.n<=1800:=by unfold dotP; omega
 have key:(a.n.x+b.n.x)*(a.n.x+b.n.x)+(a.n.y+b.n.y)*(a.n.y+b.n.y)=2*(dotP a.n a.n+dotP a.n b.n)+dotP b.n b.n-dotP a.n a.n:=by unfold dotP; grind
 have sx:=sqn (a.n.x+b.n.x)
 have sy:=sqn (a.n.y+b.n.y)
 have tx:=qs_in hq hq' hS (x:=a.n.x+b.n.x) (by omega)
 have ty:=qs_in hq hq' hS (x:=a.n.y+b.n.y) (by omega)
 exact sm (nr_between hS tx.1 tx.2) (nr_between hS ty.1 ty.2)
structure Tight (s:Sid):Prop where
 p:small 200 s.p
 q:small 200 s.q
 n:small 30 s.n
 e:small 30 s.e
theorem half30 {w l x:Int}(hw:0<=w/\w<=60) (hl:1<=l) (h : -l<=1024*x/\1024*x<=l) : -30<=half w l x/\half w l x<=30:=by
 have h1:w*(1024*x)<=w*l:=Int.mul_le_mul_of_nonneg_left h.2 hw.1
 have h2:w * -l<=w*(1024*x):=Int.mul_le_mul_of_nonneg_left h.1 hw.1
 have h3:w*l<=60*l:=Int.mul_le_mul_of_nonneg_right hw.2 (by omega)
 have e:w*(1024*x)=2*(512*w*x):=by grind
 have e2:w * -l = -(w*l):=Int.mul_neg _ _
 unfold half
 exact nr_between hl (by omega) (by omega)
theorem tight_mk {w:Int}{p q:Pt}(hw:0<=w/\w<=60) (hp:small 200 p) (hq:small 200 q) (h:¬ eqPt p q):Tight (mkSid w p q):=by
 have hne:(subP q p).x≠0\/(subP q p).y≠0:=by
  by_cases hx:p.x=q.x
  ·refine .inr fun hy=>h ⟨hx,?_⟩
   have hy:q.y-p.y=0:=hy
   omega
  ·refine .inl fun hy=>hx ?_
   have hy:q.x-p.x=0:=hy
   omega
 have l1:=len_pos hne
 have lx:=len_x (subP q p)
 have ly:=len_y (subP q p)
 exact ⟨hp,hq,sm (half30 hw l1 (by omega)) (half30 hw l1 lx),sm (half30 hw l1 lx) (half30 hw l1 ly)⟩
def tiny (l:Li):Prop:=l.n<=8/\∀ i,i<l.n->small 200 (l.f i)
theorem tiny_in {l:Li}(h:tiny l):Li.in l:=⟨Nat.le_trans h.1 (by decide),fun i hi=>sm_le (h.2 i hi) (by omega)⟩
theorem cl_tiny {l:Li}(hl:tiny l) {i:Nat}(h:i<(clean l).length):small 200 (gP (clean l) i):=by
 obtain ⟨j,h1,h2⟩:=cl_mem l i h
 rw [h2]
 exact hl.2 j h1
theorem sd_tight {w:Int}{l:Li}(hw:0<=w/\w<=60) (hl:tiny l) {k:Nat}(h2:2<=(clean l).length) (h:k<sdN l (clean l).length):Tight (sdA w l k):=by
 have hc:=(sd_ends (tiny_in hl) h2 h).2.2
 have en:sdN l (clean l).length=if l.c=true then (clean l).length else (clean l).length-1:=if_neg (Nat.lt_irrefl _)
 have hk:k<(clean l).length:=by rw [en] at h; split at h<;>omega
 rw [sdA_eq]
 refine tight_mk hw (cl_tiny hl hk) ?_ hc
 split
 ·exact cl_tiny hl (by assumption)
 ·exact cl_tiny hl (by omega)
theorem good_jn {o:Olr}{a b:Sid}(h:good o) (ha:Tight a) (hb:Tight b):good (o.jn a b):=by
 have hs:sgn a b=1\/sgn a b = -1:=by unfold sgn; split; exact .inr rfl; exact .inl rfl
 unfold Olr.jn
 split
 ·exact good_dsc h (sm_le hb.p (by omega))
 ·split
  ·exact h
  ·split
   ·rename_i hj
    exact good_add h (Nat.le_refl _) (sm4 (sm_le hb.p (by omega)) (sm_add hs hb.p ha.n (by omega)) (sm_add hs hb.p (tip_in ha.n hb.n (by have:=hj.2.1; omega)) (by omega)) (sm_add hs hb.p hb.n (by omega)))
   ·exact good_add h (by omega) (sm3 (sm_le hb.p (by omega)) (sm_add hs hb.p ha.n (by omega)) (sm_add hs hb.p hb.n (by omega)))
theorem good_cp {o:Olr}{a b:Sid}(h:good o) (ha:Tight a) (hb:Tight b):good (o.cp a b):=by
 unfold Olr.cp
 split
 ·exact good_dsc2 h (sm_le ha.p (by omega)) (sm_le hb.q (by omega))
 ·split
  ·have a1:=sm_addP 230 ha.p ha.n (by omega)
   have a2:=sm_subP 230 ha.p ha.n (by omega)
   have b1:=sm_addP 230 hb.q hb.n (by omega)
   have b2:=sm_subP 230 hb.q hb.n (by omega)
   exact good_add (good_add h (Nat.le_refl _) (sm4 (sm_le a1 (by omega)) (sm_le a2 (by omega)) (sm_subP _ a2 ha.e (by omega)) (sm_subP _ a1 ha.e (by omega)))) (Nat.le_refl _) (sm4 (sm_le b1 (by omega)) (sm_le b2 (by omega)) (sm_addP _ b2 hb.e (by omega)) (sm_addP _ b1 hb.e (by omega)))
  ·exact h
theorem good_dt {o:Olr}{v:Pt}(h:good o) (hw:0<=o.w/\o.w<=60) (hv:small 200 v):good (o.dt v):=by
 have hn:=nr_in (b:=2) (x:=o.w) (M:=60) (by omega) (by omega) ⟨by omega,by omega⟩
 have h2 : -60<=0-nr o.w 2/\0-nr o.w 2<=60:=by omega
 unfold Olr.dt
 split
 ·exact good_dsc h (sm_le hv (by omega))
 ·split
  ·exact good_add h (Nat.le_refl _) (sm4 (sm_addP _ hv (sm h2 h2) (by omega)) (sm_addP _ hv (sm h2 hn) (by omega)) (sm_addP _ hv (sm hn hn) (by omega)) (sm_addP _ hv (sm hn h2) (by omega)))
  ·exact h
theorem good_sds {o:Olr}{S:Nat->Sid}(h:good o):∀ i,(∀ k,k<i->Tight (S k))->good (o.sds S i)
 | 0,_=>h
 | i+1,hS=>by
  have t:=hS i (Nat.lt_succ_self i)
  exact good_add (good_sds h i fun k hk=>hS k (by omega)) (Nat.le_refl _) (sm4 (sm_addP _ t.p t.n (by omega)) (sm_addP _ t.q t.n (by omega)) (sm_subP _ t.q t.n (by omega)) (sm_subP _ t.p t.n (by omega)))
theorem good_jns {o:Olr}{S:Nat->Sid}(h:good o):∀ i,(∀ k,k<i+1->Tight (S k))->good (o.jns S i)
 | 0,_=>h
 | i+1,hS=>good_jn (good_jns h i fun k hk=>hS k (by omega)) (hS i (by omega)) (hS (i+1) (by omega))
def Sty.tiny (s:Sty):Prop:=s.ok/\s.w<=60
theorem ln_good {s:Sty}{l:Li}(hs:Sty.tiny s) (hl:tiny l):good (lnO s l)/\(lnO s l).n<=20/\(lnO s l).k<=20:=by
 have h0:good (o0 s):=⟨fun t ht=>absurd ht (Nat.not_lt_zero _),fun t ht=>absurd ht (Nat.not_lt_zero _)⟩
 obtain ⟨⟨⟨⟨w0,w1⟩,-⟩,-⟩,w2⟩:=hs
 have hw:0<=(o0 s).w/\(o0 s).w<=60:=⟨show 0<=s.w by omega,w2⟩
 have hcl:=cl_len l
 have hln:=hl.1
 unfold lnO Olr.ln
 split
 ·split
  ·refine ⟨good_dt h0 hw (cl_tiny hl (by omega)),?_⟩
   unfold Olr.dt
   split
   ·exact ⟨show 0<=20 by omega,show 0+1<=20 by omega⟩
   ·split
    ·exact ⟨show 0+1<=20 by omega,show 0<=20 by omega⟩
    ·exact ⟨show 0<=20 by omega,show 0<=20 by omega⟩
  ·exact ⟨h0,show 0<=20 by omega,show 0<=20 by omega⟩
 ·have h2:2<=(clean l).length:=by omega
  have en:sdN l (clean l).length=if l.c=true then (clean l).length else (clean l).length-1:=if_neg (Nat.lt_irrefl _)
  have hN:sdN l (clean l).length<=8/\1<=sdN l (clean l).length:=by rw [en]; split<;>omega
  have T:∀ k,k<sdN l (clean l).length->Tight (sdA (o0 s).w l k):=fun k hk=>sd_tight hw hl h2 hk
  generalize sdA (o0 s).w l=S at T ⊢
  generalize sdN l (clean l).length=c at hN T ⊢
  have g1:=good_sds h0 c T
  have g2:=good_jns (S:=S) g1 (c-1) fun k hk=>T k (by omega)
  obtain ⟨-,b1,b2⟩:=sds_keeps (o0 s) S c
  obtain ⟨-,d1,d2⟩:=jns_keeps ((o0 s).sds S c) S (c-1)
  have z1:(o0 s).n=0:=rfl
  have z2:(o0 s).k=0:=rfl
  unfold Olr.ends
  split
  ·obtain ⟨-,f1,f2⟩:=jn_keeps (((o0 s).sds S c).jns S (c-1)) (S (c-1)) (S 0)
   exact ⟨good_jn g2 (T _ (by omega)) (T _ (by omega)),by omega,by omega⟩
  ·refine ⟨good_cp g2 (T _ (by omega)) (T _ (by omega)),?_⟩
   generalize ((o0 s).sds S c).jns S (c-1)=o at d1 d2 ⊢
   unfold Olr.cp
   split
   ·exact ⟨show o.n<=20 by omega,show o.k+2<=20 by omega⟩
   ·split
    ·exact ⟨show o.n+1+1<=20 by omega,show o.k<=20 by omega⟩
    ·exact ⟨by omega,by omega⟩
theorem good_flip {o:Olr}(h:good o) (i:Nat):good (o.flip i):=by
 refine ⟨fun t ht=>⟨(h.1 t ht).1,fun j hj=>?_⟩,h.2⟩
 have hj:j<o.m t:=hj
 show small 32767 ⟨bif decide (t<i/\neg o t) then (o.p t (o.m t-1-j)).x else (o.p t j).x,bif decide (t<i/\neg o t) then (o.p t (o.m t-1-j)).y else (o.p t j).y⟩
 by_cases e:t<i/\neg o t
 ·rw [decide_eq_true e]; exact (h.1 t ht).2 _ (by omega)
 ·rw [decide_eq_false e]; exact (h.1 t ht).2 j hj
theorem out_good {s:Sty}{l:Li}(hs:Sty.tiny s) (hl:tiny l):good (outX s l)/\(outX s l).n<=20/\(outX s l).k<=20:=by
 rw [outX_eq]
 obtain ⟨a,b,c⟩:=ln_good hs hl
 exact ⟨good_flip a _,b,c⟩
theorem good_fin {o:Olr}(h:good o) (hn:o.n<=20):o.lns.fin:=⟨show o.n<=1024 by omega,fun t ht=>⟨by have:=(h.1 t ht).1; show o.m t<=1024; omega,(h.1 t ht).2⟩⟩
end Go.Proofs.YtmhofgchidojoaaGreat.Stl
set_option linter.unusedSimpArgs false
set_option linter.unusedVariables false
namespace Go.Proofs.YtmhofgchidojoaaGreat.Stm
open Go.RowKit Sx Num Aff Con Rgl Rga Rgm Rgn Fla Fle Flp Flf Flg Flu Sta Stb Stc Sto Ste Stl
set_option maxRecDepth 100000
theorem win_len {o:Olr}(h:good o) {k:Nat}(hk:k<o.n):(fillL ins1 (winL o k)).length<=81920:=by
 have e:(winL o k).E.length<=4:=by
  rw [winL_eq]
  show (([]:List Ed)++(o.li (k+0)).ed (o.li (k+0)).n).length<=4
  have h1:=Li.ed_len (o.li (k+0)) (o.li (k+0)).n
  have h2:(o.li (k+0)).n<=4:=(h.1 k hk).1
  rw [List.nil_append]
  omega
 have:=fill_len ins1 (winL o k) rfl
 omega
theorem fR_len {o:Olr}(h:good o):∀ k,k<=o.n->(fR o k).length<=81920*k
 | 0,_=>Nat.le_refl _
 | k+1,hk=>by
  have h1:=fR_len h k (by omega)
  have h2:=win_len h (show k<o.n by omega)
  show (fR o k++fillL ins1 (winL o k)).length<=_
  rw [List.length_append]
  omega
theorem fR_ok (o:Olr):∀ k,∀ r∈fR o k,okR r
 | 0,r,h=>absurd h (List.not_mem_nil)
 | k+1,r,h=>by
  rcases List.mem_append.1 (show r∈fR o k++fillL ins1 (winL o k) from h) with h | h
  ·exact fR_ok o k r h
  ·exact (fill_vld ins1 _).1 r h
theorem dN_le {c:Pt}{w:Int}:dN c w<=16384:=by
 have h1 : -8192<=dY0 c w:=by unfold dY0; split<;>omega
 have h2:dY1 c w<=8191:=by unfold dY1; split<;>omega
 unfold dN
 omega
theorem dsk_ok {c:Pt}{w:Int}:∀ i,i<=dN c w->∀ r∈dsk c w i,okR r
 | 0,_,r,h=>absurd h (List.not_mem_nil)
 | i+1,hi,r,h=>by
  rcases List.mem_append.1 (show r∈dsk c w i++dRow c w (dY0 c w+i) from h) with h | h
  ·exact dsk_ok i (by omega) r h
  ·have h1 : -8192<=dY0 c w:=by unfold dY0; split<;>omega
   have h2:dY1 c w<=8191:=by unfold dY1; split<;>omega
   have h3 : -8192<=dX0 c w (dY0 c w+i):=by unfold dX0; split<;>omega
   have h4:dX1 c w (dY0 c w+i)<=8192:=by unfold dX1; split<;>omega
   have hi:i+1<=(dY1 c w+1-dY0 c w).toNat:=hi
   unfold dRow at h
   split at h
   ·exact absurd h (List.not_mem_nil)
   ·split at h
    ·rename_i hx
     rw [List.mem_singleton.1 h]
     exact ⟨⟨⟨show -8192<=dY0 c w+i by omega,show dY0 c w+i<8192 by omega⟩,⟨h3,show dX0 c w (dY0 c w+i)<=8192 by omega⟩,show -8192<=dX1 c w (dY0 c w+i) by omega,h4⟩,hx⟩
    ·exact absurd h (List.not_mem_nil)
theorem dR_len (o:Olr) (w:Int):∀ k,(dR o w k).length<=16384*k
 | 0=>Nat.le_refl _
 | k+1=>by
  have h1:=dR_len o w k
  have h2:=dsk_len (o.d k) w (dN (o.d k) w)
  have h3:=dN_le (c:=o.d k) (w:=w)
  show (dR o w k++dsk _ _ _).length<=_
  rw [List.length_append]
  omega
theorem dR_ok (o:Olr) (w:Int):∀ k,∀ r∈dR o w k,okR r
 | 0,r,h=>absurd h (List.not_mem_nil)
 | k+1,r,h=>by
  rcases List.mem_append.1 (show r∈dR o w k++dsk (o.d k) w (dN (o.d k) w) from h) with h | h
  ·exact dR_ok o w k r h
  ·exact dsk_ok _ (Nat.le_refl _) r h
theorem line_len {s:Sty}{l:Li}(hs:Sty.tiny s) (hl:tiny l):(lineR s l).length<=1966080:=by
 obtain ⟨a,b,c⟩:=out_good hs hl
 have h1:=fR_len a _ (Nat.le_refl _)
 have h2:=dR_len (outX s l) s.w (outX s l).k
 unfold lineR
 rw [List.length_append]
 omega
theorem line_ok (s:Sty) (l:Li):∀ r∈lineR s l,okR r:=fun r h=>by
 rcases List.mem_append.1 h with h | h
 ·exact fR_ok _ _ r h
 ·exact dR_ok _ _ _ r h
theorem sR_len {s:Sty}{g:Lns}(hs:Sty.tiny s):∀ i,(∀ k,k<i->tiny (g.f k))->(sR s g i).length<=1966080*i
 | 0,_=>Nat.le_refl _
 | i+1,h=>by
  have h1:=sR_len hs i fun k hk=>h k (by omega)
  have h2:=line_len hs (h i (Nat.lt_succ_self i))
  show (sR s g i++lineR s (g.f i)).length<=_
  rw [List.length_append]
  omega
theorem sR_ok (s:Sty) (g:Lns):∀ i,∀ r∈sR s g i,okR r
 | 0,r,h=>absurd h (List.not_mem_nil)
 | i+1,r,h=>by
  rcases List.mem_append.1 (show r∈sR s g i++lineR s (g.f i) from h) with h | h
  ·exact sR_ok s g i r h
  ·exact line_ok s _ r h
def tinyG (g:Lns):Prop:=g.n<=8/\∀ i,i<g.n->tiny (g.f i)
theorem str_ok {g:Lns}{s:Sty}(hg:tinyG g) (hs:Sty.tiny s):StrOK ⟨g,s⟩:=by
 have hg1:=hg.1
 refine ⟨⟨⟨show g.n<=1024 by omega,fun i hi=>⟨Nat.le_trans (hg.2 i hi).1 (by decide),fun j hj=>sm_le ((hg.2 i hi).2 j hj) (by omega)⟩⟩,hs.1⟩,fun i hi=>?_,fun i hi=>?_,fun i hi t ht=>?_,fun i hi=>(out_good hs (hg.2 i hi)).1.2,?_,sR_ok s g g.n⟩
 ·obtain ⟨a,b,-⟩:=ln_good hs (hg.2 i hi)
  exact ⟨⟨tiny_in (hg.2 i hi),hs.1⟩,good_fin a b⟩
 ·obtain ⟨-,b,c⟩:=out_good hs (hg.2 i hi)
  exact ⟨Nat.le_trans b (by decide),Nat.le_trans c (by decide)⟩
 ·obtain ⟨a,b,-⟩:=out_good hs (hg.2 i hi)
  exact (good_fin a b).2 t ht
 ·have h:=sR_len (g:=g) hs g.n hg.2
  show (sR s g g.n).length<=_
  omega
theorem runs_sq {L:List Rn}(h:∀ r∈L,okR r) (y x:Int) (hm:mem L y x=true):(-8192<=y/\y<8192)/\ -8192<=x/\x<8192:=by
 obtain ⟨r,hr,h1,h2,h3⟩:=(mem_iff _ _ _).1 hm
 obtain ⟨⟨⟨a1,a2⟩,⟨a3,a4⟩,a5,a6⟩,a7⟩:=h r hr
 omega
theorem out_eq (s:Sty) (g:Lns):outR ⟨g,s⟩=ofSet (mem (sR s g g.n)):=by
 unfold outR Rgg.joOut
 rw [Rg.L_of]
theorem out_vld (s:Sty) (g:Lns):vld (outR ⟨g,s⟩):=by rw [out_eq]; exact ofSet_vld _
theorem out_mem (s:Sty) (g:Lns) (y x:Int):mem (outR ⟨g,s⟩) y x=mem (sR s g g.n) y x:=by
 rw [out_eq]
 exact ofSet_mem (fun y x h=>runs_sq (sR_ok s g g.n) y x h) y x
structure IsL (l:Li):Prop where
 n:l.n=2
 p0:l.f 0=⟨0,0⟩
 p1:l.f 1=⟨10,0⟩
 c:l.c=false
def s0:Sty:=⟨4,0,0,64⟩
theorem IsL.clean {l:Li}(h:IsL l):clean l=[⟨0,0⟩,⟨10,0⟩]:=by
 have e1:dd l.f 1=[l.f 0]:=if_pos (.inl rfl)
 have e2:dd l.f 2=if (dd l.f 1).length=0\/¬ eqPt (lastP (dd l.f 1)) (l.f 1) then dd l.f 1++[l.f 1] else dd l.f 1:=rfl
 rw [e1] at e2
 have e3:lastP [l.f 0]=l.f 0:=rfl
 rw [e3,h.p0,h.p1,if_pos (.inr fun hc=>absurd hc.1 (by decide))] at e2
 unfold Sta.clean
 rw [h.c,if_neg (by decide),h.n,e2]
 rfl
theorem isq0:isq 104857600=10240:=by
 have h:=isq_spec 104857600
 have a:isq 104857600<10241:=Nat.lt_of_not_le fun hc=>by
  have:=Nat.mul_le_mul hc hc
  omega
 have b:10240<=isq 104857600:=isq_ge (by decide)
 omega
def B0:Sid:=⟨⟨0,0⟩,⟨10,0⟩,⟨10,0⟩,⟨0,2⟩,⟨2,0⟩⟩
theorem mk0:mkSid 4 ⟨0,0⟩ ⟨10,0⟩=B0:=by
 have el:lenD (subP ⟨10,0⟩ ⟨0,0⟩)=10240:=by
  show ((isq 104857600:Nat):Int)=10240
  rw [isq0]
  rfl
 unfold mkSid
 rw [el]
 rfl
def O0:Olr:=((o0 s0).add 4 (sPart B0)).flip 1
theorem IsL.out {l:Li}(h:IsL l):outX s0 l=O0:=by
 have hc:=h.clean
 have eN:sdN l 2=1:=by unfold sdN; rw [hc,h.c]; rfl
 have eS:sdA 4 l 0=B0:=by rw [sdA_eq,hc]; exact mk0
 have hln:lnO s0 l=(o0 s0).add 4 (sPart B0):=by
  unfold lnO Olr.ln
  rw [hc]
  show (if 2<2 then _ else Olr.ends (Olr.jns (Olr.sds (o0 s0) (sdA 4 l) (sdN l 2)) (sdA 4 l) (sdN l 2-1)) l (sdA 4 l) (sdN l 2))=_
  rw [if_neg (by decide),eN]
  show (if l.c=true then _ else ((o0 s0).add 4 (sPart (sdA 4 l 0))).cp (sdA 4 l 0) (sdA 4 l 0))=_
  rw [h.c,if_neg (by decide),eS]
  rfl
 rw [outX_eq]
 unfold outO
 rw [hln]
 rfl
structure IsB (g:Lns):Prop where
 n:g.n=1
 m:(g.f 0).n=4
 p0:(g.f 0).f 0=⟨0,2⟩
 p1:(g.f 0).f 1=⟨10,2⟩
 p2:(g.f 0).f 2=⟨10,-2⟩
 p3:(g.f 0).f 3=⟨0,-2⟩
theorem IsB.E {g:Lns}(h:IsB g):g.E=[⟨10,-2,2,0,4,-1⟩,⟨0,-2,2,0,4,1⟩]:=by
 unfold Lns.E
 rw [h.n]
 show []++(g.f 0).ed (g.f 0).n=_
 rw [h.m]
 show []++((((([]:List Ed)++mkE ((g.f 0).f 0) ((g.f 0).f ((0+1) % (g.f 0).n)))++mkE ((g.f 0).f 1) ((g.f 0).f ((1+1) % (g.f 0).n)))++mkE ((g.f 0).f 2) ((g.f 0).f ((2+1) % (g.f 0).n)))++mkE ((g.f 0).f 3) ((g.f 0).f ((3+1) % (g.f 0).n)))=_
 rw [h.m]
 show []++((((([]:List Ed)++mkE ((g.f 0).f 0) ((g.f 0).f 1))++mkE ((g.f 0).f 1) ((g.f 0).f 2))++mkE ((g.f 0).f 2) ((g.f 0).f 3))++mkE ((g.f 0).f 3) ((g.f 0).f 0))=_
 rw [h.p0,h.p1,h.p2,h.p3]
 rfl
def lB:List Rn:=[⟨-2,0,10⟩,⟨-1,0,10⟩,⟨0,0,10⟩,⟨1,0,10⟩]
theorem vB:vld lB:=by
 refine ⟨fun r hr=>?_,?_⟩
 ·simp only [lB,List.mem_cons,List.not_mem_nil,or_false] at hr
  rcases hr with rfl | rfl | rfl | rfl<;>exact ⟨⟨⟨by decide,by decide⟩,⟨by decide,by decide⟩,by decide,by decide⟩,by decide⟩
 ·refine List.pairwise_cons.2 ⟨fun r hr=>?_,List.pairwise_cons.2 ⟨fun r hr=>?_,List.pairwise_cons.2 ⟨fun r hr=>?_,List.pairwise_singleton _ _⟩⟩⟩
  ·simp only [List.mem_cons,List.not_mem_nil,or_false] at hr
   rcases hr with rfl | rfl | rfl<;>exact .inl (by decide)
  ·simp only [List.mem_cons,List.not_mem_nil,or_false] at hr
   rcases hr with rfl | rfl<;>exact .inl (by decide)
  ·simp only [List.mem_cons,List.not_mem_nil,or_false] at hr
   rw [hr]
   exact .inl (by decide)
theorem IsB.fill {g:Lns}(h:IsB g):fillL ins1 g=lB:=by
 refine ofSet_eq vB fun y x=>?_
 rw [h.E]
 have f1:Ed.first ⟨10,-2,2,0,4,-1⟩ y=10:=by unfold Ed.first Ed.num; simp
 have f2:Ed.first ⟨0,-2,2,0,4,1⟩ y=0:=by unfold Ed.first Ed.num; simp
 have e1:wE (eI [⟨10,-2,2,0,4,-1⟩,⟨0,-2,2,0,4,1⟩]) 2 y x=(if (-2<=y/\y<2)/\10<=x then -1 else 0)+(if (-2<=y/\y<2)/\0<=x then 1 else 0):=by
  show 0+(if Ed.on ⟨10,-2,2,0,4,-1⟩ y=true/\Ed.first ⟨10,-2,2,0,4,-1⟩ y<=x then (-1:Int) else 0)+(if Ed.on ⟨0,-2,2,0,4,1⟩ y=true/\Ed.first ⟨0,-2,2,0,4,1⟩ y<=x then (1:Int) else 0)=_
  rw [f1,f2,Int.zero_add]
  unfold Ed.on
  simp only [decide_eq_true_eq]
 show mem lB y x=chi ins1 (eI [⟨10,-2,2,0,4,-1⟩,⟨0,-2,2,0,4,1⟩]) 2 y x
 unfold chi ins1
 rw [e1,Bool.eq_iff_iff,Bool.and_eq_true,decide_eq_true_iff,decide_eq_true_iff]
 show ((inR ⟨-2,0,10⟩ y x||(inR ⟨-1,0,10⟩ y x||(inR ⟨0,0,10⟩ y x||(inR ⟨1,0,10⟩ y x||false))))=true)<->_
 rw [Bool.or_false,Bool.or_eq_true,Bool.or_eq_true,Bool.or_eq_true,inR_iff,inR_iff,inR_iff,inR_iff]
 show (((-2:Int)=y/\0<=x/\x<10)\/((-1:Int)=y/\0<=x/\x<10)\/((0:Int)=y/\0<=x/\x<10)\/((1:Int)=y/\0<=x/\x<10))<->_
 split<;>split<;>omega
end Go.Proofs.YtmhofgchidojoaaGreat.Stm
set_option linter.unusedSimpArgs false
set_option linter.unusedVariables false
namespace Go.Proofs.YtmhofgchidojoaaGreat.Stv
open Go.RowKit Sx Num Aff Con Fla Flg Sta Stb Stc Sto Ste Stm Stl
set_option maxRecDepth 100000
theorem nr_err (a:Int) {l:Int}(h:1<=l) : -l<=2*(nr a l*l-a)/\2*(nr a l*l-a)<=l:=by
 have:=nr_spec a l h
 omega
theorem size_in (x:Int):(-(sizeI x)<=x/\x<=sizeI x)/\0<=sizeI x:=by unfold sizeI; split<;>omega
theorem size_of {x M:Int}(h : -M<=x/\x<=M):sizeI x<=M:=by unfold sizeI; split<;>omega
theorem mul_size {e l x:Int}(h : -l<=e/\e<=l) : -(l*sizeI x)<=e*x/\e*x<=l*sizeI x:=Fla.mul_in h (size_in x).1
def nv (w:Int) (d:Pt):Pt:=⟨half w (lenD d) (0-d.y),half w (lenD d) d.x⟩
theorem nv_dot {w:Int}{d:Pt}(hd:d.x≠0\/d.y≠0) : -(sizeI d.x+sizeI d.y)<=2*((nv w d).x*d.x+(nv w d).y*d.y)/\2*((nv w d).x*d.x+(nv w d).y*d.y)<=sizeI d.x+sizeI d.y:=by
 have hl:=len_pos hd
 show -(sizeI d.x+sizeI d.y)<=2*(nr (512*w*(0-d.y)) (lenD d)*d.x+nr (512*w*d.x) (lenD d)*d.y)/\2*(nr (512*w*(0-d.y)) (lenD d)*d.x+nr (512*w*d.x) (lenD d)*d.y)<=sizeI d.x+sizeI d.y
 have e1:=nr_err (512*w*(0-d.y)) hl
 have e2:=nr_err (512*w*d.x) hl
 generalize lenD d=l at *
 generalize nr (512*w*(0-d.y)) l=h1 at *
 generalize nr (512*w*d.x) l=h2 at *
 have m1:=mul_size (x:=d.x) e1
 have m2:=mul_size (x:=d.y) e2
 have key:l*(2*(h1*d.x+h2*d.y))=2*(h1*l-512*w*(0-d.y))*d.x+2*(h2*l-512*w*d.x)*d.y:=by grind
 have e3:l*(sizeI d.x+sizeI d.y)=l*sizeI d.x+l*sizeI d.y:=Int.mul_add _ _ _
 have e4:l * -(sizeI d.x+sizeI d.y) = -(l*(sizeI d.x+sizeI d.y)):=Int.mul_neg _ _
 exact ⟨Int.le_of_mul_le_mul_left (a:=l) (by omega) (by omega),Int.le_of_mul_le_mul_left (a:=l) (by omega) (by omega)⟩
theorem nv_len {w:Int}{d:Pt}(hw:1<=w/\w<=1024) (hd:d.x≠0\/d.y≠0) :
  4*((nv w d).x*(nv w d).x+(nv w d).y*(nv w d).y)<=(w+3)*(w+3)/\(4<=w->(w-3)*(w-3)<=4*((nv w d).x*(nv w d).x+(nv w d).y*(nv w d).y)):=by
 have hl:=len_pos hd
 have lx:=len_x d
 have ly:=len_y d
 have hl2:1024<=lenD d:=by omega
 have hdd:0<=dotP d d:=by unfold dotP; have:=sqn d.x; have:=sqn d.y; omega
 have hs:=isq_spec (1048576*dotP d d).toNat
 have eD:(((1048576*dotP d d).toNat:Nat):Int)=1048576*dotP d d:=by omega
 have eL:lenD d=((isq (1048576*dotP d d).toNat:Nat):Int):=rfl
 have s1:lenD d*lenD d<=1048576*dotP d d:=by
  rw [<-eD,eL,<-Int.natCast_mul]
  exact Int.ofNat_le.2 hs.1
 have s2:1048576*dotP d d<=(lenD d+1)*(lenD d+1):=by
  rw [<-eD,eL,show ((isq (1048576*dotP d d).toNat:Nat):Int)+1=((isq (1048576*dotP d d).toNat+1:Nat):Int) from rfl,<-Int.natCast_mul]
  exact Int.ofNat_le.2 (Nat.le_of_lt hs.2)
 clear eL eD hs
 show 4*(nr (512*w*(0-d.y)) (lenD d)*nr (512*w*(0-d.y)) (lenD d)+nr (512*w*d.x) (lenD d)*nr (512*w*d.x) (lenD d))<=(w+3)*(w+3)/\(4<=w->(w-3)*(w-3)<=4*(nr (512*w*(0-d.y)) (lenD d)*nr (512*w*(0-d.y)) (lenD d)+nr (512*w*d.x) (lenD d)*nr (512*w*d.x) (lenD d)))
 have e1:=nr_err (512*w*(0-d.y)) hl
 have e2:=nr_err (512*w*d.x) hl
 unfold dotP at s1 s2
 generalize lenD d=l at *
 generalize nr (512*w*(0-d.y)) l=h1 at *
 generalize nr (512*w*d.x) l=h2 at *
 have eA:2*(512*w*(0-d.y))=1024*w*(0-d.y):=by grind
 have eB:2*(512*w*d.x)=1024*w*d.x:=by grind
 generalize hA:1024*w*(0-d.y)=A at *
 generalize hB:1024*w*d.x=B at *
 generalize hE1:2*(h1*l)-A=E1
 generalize hE2:2*(h2*l)-B=E2
 have b1 : -l<=E1/\E1<=l:=by omega
 have b2 : -l<=E2/\E2<=l:=by omega
 generalize hD:d.x*d.x+d.y*d.y=D at *
 have hAB:A*A+B*B=w*w*(1048576*D):=by rw [<-hA,<-hB,<-hD]; grind
 have key:l*l*(4*(h1*h1+h2*h2))=A*A+B*B+2*(E1*A+E2*B)+(E1*E1+E2*E2):=by rw [<-hE1,<-hE2]; grind
 have m1:=mul_size (x:=A) b1
 have m2:=mul_size (x:=B) b2
 have q1:=Fla.mul_in b1 b1
 have q2:=Fla.mul_in b2 b2
 have n1:=sqn E1
 have n2:=sqn E2
 have pA:=(size_in A).2
 have pB:=(size_in B).2
 have aA:sizeI A*sizeI A=A*A:=by unfold sizeI; split<;>grind
 have aB:sizeI B*sizeI B=B*B:=by unfold sizeI; split<;>grind
 have eP:l*(sizeI A+sizeI B)=l*sizeI A+l*sizeI B:=Int.mul_add _ _ _
 generalize hP:sizeI A+sizeI B=P at *
 have hP2:P*P<=2*(A*A+B*B):=by
  have:=sqn (sizeI A-sizeI B)
  have e:(sizeI A-sizeI B)*(sizeI A-sizeI B)=2*(sizeI A*sizeI A+sizeI B*sizeI B)-P*P:=by rw [<-hP]; grind
  omega
 have ww:=sqn w
 have w1:w*w*(1048576*D)<=w*w*((l+1)*(l+1)):=Int.mul_le_mul_of_nonneg_left s2 ww
 have w2:w*w*(l*l)<=w*w*(1048576*D):=Int.mul_le_mul_of_nonneg_left s1 ww
 have c0:=sqn (w*(l+1))
 have c1:(w*(l+1))*(w*(l+1))=w*w*((l+1)*(l+1)):=by grind
 have hwl:0<=w*(l+1):=Int.mul_nonneg (by omega) (by omega)
 have hP3:=sq_le' (a:=2*P) (b:=3*(w*(l+1))) (by omega) (by
  have f1:2*P*(2*P)=4*(P*P):=by grind
  have f2:3*(w*(l+1))*(3*(w*(l+1)))=9*((w*(l+1))*(w*(l+1))):=by grind
  omega)
 have lP:l*(2*P)<=l*(3*(w*(l+1))):=Int.mul_le_mul_of_nonneg_left hP3.2 (by omega)
 have g1:l*(2*P)=2*(l*P):=by grind
 have g2:l*(3*(w*(l+1)))=3*(w*(l*l))+3*(w*l):=by grind
 have g3:w*w*((l+1)*(l+1))=w*w*(l*l)+2*(w*w*l)+w*w:=by grind
 have i1:w*(w*l)<=w*(l*l):=Int.mul_le_mul_of_nonneg_left (Int.mul_le_mul_of_nonneg_right (by omega) (by omega)) (by omega)
 have i1':w*(w*l)=w*w*l:=by grind
 have i2:w*l<=l*l:=Int.mul_le_mul_of_nonneg_right (by omega) (by omega)
 have i3:w*w<=l*l:=Int.mul_le_mul (by omega) (by omega) (by omega) (by omega)
 have ll:0<l*l:=Int.mul_pos (by omega) (by omega)
 have t1:l*l*((w+3)*(w+3))=w*w*(l*l)+6*(w*(l*l))+9*(l*l):=by grind
 refine ⟨Int.le_of_mul_le_mul_left (a:=l*l) (by omega) ll,fun h4=>Int.le_of_mul_le_mul_left (a:=l*l) ?_ ll⟩
 have t2:l*l*((w-3)*(w-3))=w*w*(l*l)-6*(w*(l*l))+9*(l*l):=by grind
 have t3:4*(l*l)<=w*(l*l):=Int.mul_le_mul_of_nonneg_right h4 (by omega)
 have t4:1*l<=(w-3)*l:=Int.mul_le_mul_of_nonneg_right (by omega) (by omega)
 have t5:l*(1*l)<=l*((w-3)*l):=Int.mul_le_mul_of_nonneg_left t4 (by omega)
 have t6:l*((w-3)*l)=w*(l*l)-3*(l*l):=by grind
 have t7:l*(1*l)=l*l:=by grind
 omega
structure IsS (l:Li) (a b:Pt):Prop where
 n:l.n=2
 p0:l.f 0=a
 p1:l.f 1=b
 s:l.c=false
def sN (w:Int):Sty:=⟨w,0,0,16⟩
theorem IsS.clean {l:Li}{a b:Pt}(h:IsS l a b) (hne:¬ eqPt a b):clean l=[a,b]:=by
 have e1:dd l.f 1=[l.f 0]:=if_pos (.inl rfl)
 have e2:dd l.f 2=if (dd l.f 1).length=0\/¬ eqPt (lastP (dd l.f 1)) (l.f 1) then dd l.f 1++[l.f 1] else dd l.f 1:=rfl
 rw [e1] at e2
 have e3:lastP [l.f 0]=l.f 0:=rfl
 rw [e3,h.p0,h.p1,if_pos (.inr hne)] at e2
 unfold Sta.clean
 rw [h.s,if_neg (by decide),h.n,e2]
 rfl
def ON (w:Int) (a b:Pt):Olr:=(o0 (sN w)).add 4 (sPart (mkSid w a b))
theorem IsS.ln {l:Li}{a b:Pt}(h:IsS l a b) (hne:¬ eqPt a b) (w:Int):lnO (sN w) l=ON w a b:=by
 have hc:=h.clean hne
 have eN:sdN l 2=1:=by unfold sdN; rw [hc,h.s]; rfl
 have eS:sdA w l 0=mkSid w a b:=by rw [sdA_eq,hc]; rfl
 unfold lnO Olr.ln
 rw [hc]
 show (if 2<2 then _ else Olr.ends (Olr.jns (Olr.sds (o0 (sN w)) (sdA w l) (sdN l 2)) (sdA w l) (sdN l 2-1)) l (sdA w l) (sdN l 2))=_
 rw [if_neg (by decide),eN]
 show (if l.c=true then _ else ((o0 (sN w)).add 4 (sPart (sdA w l 0))).cp (sdA w l 0) (sdA w l 0))=_
 rw [h.s,if_neg (by decide),eS]
 rfl
theorem IsS.out {l:Li}{a b:Pt}(h:IsS l a b) (hne:¬ eqPt a b) (w:Int):outX (sN w) l=(ON w a b).flip 1:=by
 rw [outX_eq]
 unfold outO
 rw [h.ln hne]
 rfl
theorem IsS.pts {l:Li}{a b:Pt}(h:IsS l a b) (hne:¬ eqPt a b) (w:Int) :
  (((outX (sN w) l).p 0 0=addP a (nv w (subP b a))/\(outX (sN w) l).p 0 1=addP b (nv w (subP b a)))/\(outX (sN w) l).p 0 2=subP b (nv w (subP b a))/\(outX (sN w) l).p 0 3=subP a (nv w (subP b a)))\/
  (((outX (sN w) l).p 0 0=subP a (nv w (subP b a))/\(outX (sN w) l).p 0 1=subP b (nv w (subP b a)))/\(outX (sN w) l).p 0 2=addP b (nv w (subP b a))/\(outX (sN w) l).p 0 3=addP a (nv w (subP b a))):=by
 rw [h.out hne]
 have e:∀ j,((ON w a b).flip 1).p 0 j=⟨bif decide (0<1/\neg (ON w a b) 0) then ((ON w a b).p 0 (4-1-j)).x else ((ON w a b).p 0 j).x,bif decide (0<1/\neg (ON w a b) 0) then ((ON w a b).p 0 (4-1-j)).y else ((ON w a b).p 0 j).y⟩:=fun j=>rfl
 by_cases hn:0<1/\neg (ON w a b) 0
 ·right
  rw [e,e,e,e,decide_eq_true hn]
  exact ⟨⟨rfl,rfl⟩,rfl,rfl⟩
 ·left
  rw [e,e,e,e,decide_eq_false hn]
  exact ⟨⟨rfl,rfl⟩,rfl,rfl⟩
structure Par (w:Int) (a b:Pt) (T:Nat->Pt):Prop where
 x02:(T 0).x+(T 2).x=a.x+b.x
 y02:(T 0).y+(T 2).y=a.y+b.y
 x13:(T 1).x+(T 3).x=a.x+b.x
 y13:(T 1).y+(T 3).y=a.y+b.y
 u : -1200<=(T 0).x-(T 3).x/\(T 0).x-(T 3).x<=1200
 v : -1200<=(T 0).y-(T 3).y/\(T 0).y-(T 3).y<=1200
 dot:sizeI (((T 0).x-(T 3).x)*(b.x-a.x)+((T 0).y-(T 3).y)*(b.y-a.y))<=sizeI (b.x-a.x)+sizeI (b.y-a.y)
 up:((T 0).x-(T 3).x)*((T 0).x-(T 3).x)+((T 0).y-(T 3).y)*((T 0).y-(T 3).y)<=(w+3)*(w+3)
 lo:4<=w->(w-3)*(w-3)<=((T 0).x-(T 3).x)*((T 0).x-(T 3).x)+((T 0).y-(T 3).y)*((T 0).y-(T 3).y)
theorem IsS.par {l:Li}{a b:Pt}(h:IsS l a b) (hne:¬ eqPt a b) {w:Int}(hw:1<=w/\w<=1024):Par w a b ((outX (sN w) l).p 0):=by
 have hd:(subP b a).x≠0\/(subP b a).y≠0:=by
  by_cases hx:a.x=b.x
  ·refine .inr fun hy=>hne ⟨hx,?_⟩
   have hy:b.y-a.y=0:=hy
   omega
  ·refine .inl fun hy=>hx ?_
   have hy:b.x-a.x=0:=hy
   omega
 have l1:=len_pos hd
 have lx:=len_x (subP b a)
 have ly:=len_y (subP b a)
 have n1 : -600<=(nv w (subP b a)).x/\(nv w (subP b a)).x<=600:=half_in (by omega) l1 (by omega)
 have n2 : -600<=(nv w (subP b a)).y/\(nv w (subP b a)).y<=600:=half_in (by omega) l1 lx
 have kd:=nv_dot (w:=w) hd
 have kl:=nv_len hw hd
 have hp:=h.pts hne w
 generalize nv w (subP b a)=n at *
 generalize (outX (sN w) l).p 0=T at *
 have ex:(subP b a).x=b.x-a.x:=rfl
 have ey:(subP b a).y=b.y-a.y:=rfl
 rw [ex,ey] at kd
 have one:∀ s:Int,s=1\/s = -1->(T 0).x=a.x+s*n.x->(T 0).y=a.y+s*n.y->(T 1).x=b.x+s*n.x->(T 1).y=b.y+s*n.y->(T 2).x=b.x-s*n.x->(T 2).y=b.y-s*n.y->(T 3).x=a.x-s*n.x->(T 3).y=a.y-s*n.y->Par w a b T:=fun s hs h0 h1 h2 h3 h4 h5 h6 h7=>by
  have u:(T 0).x-(T 3).x=2*(s*n.x):=by omega
  have v:(T 0).y-(T 3).y=2*(s*n.y):=by omega
  have sb : -600<=s*n.x/\s*n.x<=600:=by rcases hs with rfl | rfl<;>omega
  have sc : -600<=s*n.y/\s*n.y<=600:=by rcases hs with rfl | rfl<;>omega
  have ss:s*s=1:=by rcases hs with rfl | rfl<;>rfl
  have q:2*(s*n.x)*(2*(s*n.x))+2*(s*n.y)*(2*(s*n.y))=4*(n.x*n.x+n.y*n.y):=by
   have:2*(s*n.x)*(2*(s*n.x))+2*(s*n.y)*(2*(s*n.y))=s*s*(4*(n.x*n.x+n.y*n.y)):=by grind
   rw [this,ss,Int.one_mul]
  have d:2*(s*n.x)*(b.x-a.x)+2*(s*n.y)*(b.y-a.y)=s*(2*(n.x*(b.x-a.x)+n.y*(b.y-a.y))):=by grind
  refine ⟨by omega,by omega,by omega,by omega,by omega,by omega,?_,?_,?_⟩
  ·rw [u,v,d]
   refine size_of ?_
   rcases hs with rfl | rfl<;>omega
  ·rw [u,v,q]
   exact kl.1
  ·rw [u,v,q]
   exact kl.2
 rcases hp with ⟨⟨h0,h1⟩,h2,h3⟩ | ⟨⟨h0,h1⟩,h2,h3⟩
 ·refine one 1 (.inl rfl) ?_ ?_ ?_ ?_ ?_ ?_ ?_ ?_
  ·rw [h0,Int.one_mul]; rfl
  ·rw [h0,Int.one_mul]; rfl
  ·rw [h1,Int.one_mul]; rfl
  ·rw [h1,Int.one_mul]; rfl
  ·rw [h2,Int.one_mul]; rfl
  ·rw [h2,Int.one_mul]; rfl
  ·rw [h3,Int.one_mul]; rfl
  ·rw [h3,Int.one_mul]; rfl
 ·have e:∀ x y:Int,x-y=x + -1*y:=fun x y=>by omega
  have e':∀ x y:Int,x+y=x - -1*y:=fun x y=>by omega
  refine one (-1) (.inr rfl) ?_ ?_ ?_ ?_ ?_ ?_ ?_ ?_
  ·rw [h0,<-e]; rfl
  ·rw [h0,<-e]; rfl
  ·rw [h1,<-e]; rfl
  ·rw [h1,<-e]; rfl
  ·rw [h2,<-e']; rfl
  ·rw [h2,<-e']; rfl
  ·rw [h3,<-e']; rfl
  ·rw [h3,<-e']; rfl
end Go.Proofs.YtmhofgchidojoaaGreat.Stv
set_option linter.unusedSimpArgs false
set_option linter.unusedVariables false
namespace Go.Proofs.YtmhofgchidojoaaGreat.Str
open Go.RowKit Sx Num Aff Con Fla Flg Sta Stb Stc Sto Ste Stm Stl Stv
set_option maxRecDepth 100000
structure Nrm (w q:Int):Prop where
 lo:10000*(w*w)-28314*w<=40000*q
 hi:40000*q<=10000*(w*w)+29487*w+20000
theorem nv_nrm {w:Int}{d:Pt}(hw:1<=w/\w<=60) (hd:d.x≠0\/d.y≠0):Nrm w ((nv w d).x*(nv w d).x+(nv w d).y*(nv w d).y):=by
 have hl:=len_pos hd
 have lx:=len_x d
 have ly:=len_y d
 have hl2:1024<=lenD d:=by omega
 have hdd:0<=dotP d d:=by unfold dotP; have:=sqn d.x; have:=sqn d.y; omega
 have hs:=isq_spec (1048576*dotP d d).toNat
 have eD:(((1048576*dotP d d).toNat:Nat):Int)=1048576*dotP d d:=by omega
 have eL:lenD d=((isq (1048576*dotP d d).toNat:Nat):Int):=rfl
 have s1:lenD d*lenD d<=1048576*dotP d d:=by
  rw [<-eD,eL,<-Int.natCast_mul]
  exact Int.ofNat_le.2 hs.1
 have s2:1048576*dotP d d<=(lenD d+1)*(lenD d+1):=by
  rw [<-eD,eL,show ((isq (1048576*dotP d d).toNat:Nat):Int)+1=((isq (1048576*dotP d d).toNat+1:Nat):Int) from rfl,<-Int.natCast_mul]
  exact Int.ofNat_le.2 (Nat.le_of_lt hs.2)
 clear eL eD hs
 show Nrm w (nr (512*w*(0-d.y)) (lenD d)*nr (512*w*(0-d.y)) (lenD d)+nr (512*w*d.x) (lenD d)*nr (512*w*d.x) (lenD d))
 have e1:=nr_err (512*w*(0-d.y)) hl
 have e2:=nr_err (512*w*d.x) hl
 unfold dotP at s1 s2
 generalize lenD d=l at *
 generalize nr (512*w*(0-d.y)) l=h1 at *
 generalize nr (512*w*d.x) l=h2 at *
 have eA:2*(512*w*(0-d.y))=1024*w*(0-d.y):=by grind
 have eB:2*(512*w*d.x)=1024*w*d.x:=by grind
 generalize hA:1024*w*(0-d.y)=A at *
 generalize hB:1024*w*d.x=B at *
 generalize hE1:2*(h1*l)-A=E1
 generalize hE2:2*(h2*l)-B=E2
 have b1 : -l<=E1/\E1<=l:=by omega
 have b2 : -l<=E2/\E2<=l:=by omega
 generalize hD:d.x*d.x+d.y*d.y=D at *
 have hAB:A*A+B*B=w*w*(1048576*D):=by rw [<-hA,<-hB,<-hD]; grind
 have key:l*l*(4*(h1*h1+h2*h2))=A*A+B*B+2*(E1*A+E2*B)+(E1*E1+E2*E2):=by rw [<-hE1,<-hE2]; grind
 have m1:=mul_size (x:=A) b1
 have m2:=mul_size (x:=B) b2
 have q1:=Fla.mul_in b1 b1
 have q2:=Fla.mul_in b2 b2
 have n1:=sqn E1
 have n2:=sqn E2
 have pA:=(size_in A).2
 have pB:=(size_in B).2
 have aA:sizeI A*sizeI A=A*A:=by unfold sizeI; split<;>grind
 have aB:sizeI B*sizeI B=B*B:=by unfold sizeI; split<;>grind
 have eP:l*(sizeI A+sizeI B)=l*sizeI A+l*sizeI B:=Int.mul_add _ _ _
 generalize hP:sizeI A+sizeI B=P at *
 have hP2:P*P<=2*(A*A+B*B):=by
  have:=sqn (sizeI A-sizeI B)
  have e:(sizeI A-sizeI B)*(sizeI A-sizeI B)=2*(sizeI A*sizeI A+sizeI B*sizeI B)-P*P:=by rw [<-hP]; grind
  omega
 have ww:=sqn w
 have w1:w*w*(1048576*D)<=w*w*((l+1)*(l+1)):=Int.mul_le_mul_of_nonneg_left s2 ww
 have w2:w*w*(l*l)<=w*w*(1048576*D):=Int.mul_le_mul_of_nonneg_left s1 ww
 have c0:=sqn (w*(l+1))
 have c1:(w*(l+1))*(w*(l+1))=w*w*((l+1)*(l+1)):=by grind
 have hwl:0<=w*(l+1):=Int.mul_nonneg (by omega) (by omega)
 have hP3:=sq_le' (a:=10000*P) (b:=14143*(w*(l+1))) (by omega) (by
  have f1:10000*P*(10000*P)=100000000*(P*P):=by grind
  have f2:14143*(w*(l+1))*(14143*(w*(l+1)))=200024449*((w*(l+1))*(w*(l+1))):=by grind
  omega)
 have lP:l*(10000*P)<=l*(14143*(w*(l+1))):=Int.mul_le_mul_of_nonneg_left hP3.2 (by omega)
 have g1:l*(10000*P)=10000*(l*P):=by grind
 have g2:l*(14143*(w*(l+1)))=14143*(w*(l*l))+14143*(w*l):=by grind
 have g3:w*w*((l+1)*(l+1))=w*w*(l*l)+2*(w*w*l)+w*w:=by grind
 have ll:0<l*l:=Int.mul_pos (by omega) (by omega)
 have k1:1024*l<=l*l:=Int.mul_le_mul_of_nonneg_right hl2 (by omega)
 have k2:1024*1024<=l*l:=Int.mul_le_mul hl2 hl2 (by omega) (by omega)
 have i2:w*(1024*l)<=w*(l*l):=Int.mul_le_mul_of_nonneg_left k1 (by omega)
 have i2':w*(1024*l)=1024*(w*l):=by grind
 have i4:w*w*(1024*l)<=w*w*(l*l):=Int.mul_le_mul_of_nonneg_left k1 ww
 have i4':w*w*(1024*l)=1024*(w*w*l):=by grind
 have i5:w*w*(1024*1024)<=w*w*(l*l):=Int.mul_le_mul_of_nonneg_left k2 ww
 have i6:w*w<=60*w:=Int.mul_le_mul_of_nonneg_right hw.2 (by omega)
 have i7:w*w*(l*l)<=60*w*(l*l):=Int.mul_le_mul_of_nonneg_right i6 (by omega)
 have i7':60*w*(l*l)=60*(w*(l*l)):=by grind
 have u1:l*l*(40000*(h1*h1+h2*h2))=10000*(l*l*(4*(h1*h1+h2*h2))):=by grind
 have u2:l*l*(10000*(w*w)+29487*w+20000)=10000*(w*w*(l*l))+29487*(w*(l*l))+20000*(l*l):=by grind
 have u3:l*l*(10000*(w*w)-28314*w)=10000*(w*w*(l*l))-28314*(w*(l*l)):=by grind
 exact ⟨Int.le_of_mul_le_mul_left (a:=l*l) (by omega) ll,Int.le_of_mul_le_mul_left (a:=l*l) (by omega) ll⟩
end Go.Proofs.YtmhofgchidojoaaGreat.Str
set_option linter.unusedSimpArgs false
set_option linter.unusedVariables false
namespace Go.Proofs.YtmhofgchidojoaaGreat.Tdg
open Num Aff Con Fla Fle Flp Flf Flu Sta Stl
theorem sq_up {a b:Int}(h : -b<=a/\a<=b):a*a<=b*b:=by
 have h1:=Int.mul_nonneg (a:=b-a) (b:=b+a) (by omega) (by omega)
 grind
theorem comb {s M X Y K w:Int}(hs:1<=s) (hM:0<M) (hw:8<=w) (h:s*M<=X+s*Y) (hX:X*X<=2*(s*s)*K)
  (hY:1000000*(Y*Y)<=(1000*w+1475)*(1000*w+1475)*K):100*(M*M)<=(10*w+29)*(10*w+29)*K:=by
 refine Int.not_lt.1 fun hc=>?_
 generalize hr:10*w+29=r at *
 have rr:=sqn r
 have ss:=sqn s
 have mm:=sqn M
 have sM:0<s*M:=Int.mul_pos (by omega) hM
 have x1:r*r*(X*X)<=r*r*(2*(s*s)*K):=Int.mul_le_mul_of_nonneg_left hX rr
 have x2:2*(s*s)*(r*r*K)<=2*(s*s)*(100*(M*M)):=Int.mul_le_mul_of_nonneg_left (by omega) (by omega)
 have smm:=sqn (s*M)
 have x3:=sq_le' (a:=1000*(X*r)) (b:=14143*(s*M)) (by omega) (by grind)
 have y1:r*r*(1000000*(Y*Y))<=r*r*((1000*w+1475)*(1000*w+1475)*K):=Int.mul_le_mul_of_nonneg_left hY rr
 have y2:(1000*w+1475)*(1000*w+1475)*(r*r*K)<=(1000*w+1475)*(1000*w+1475)*(100*(M*M)):=Int.mul_le_mul_of_nonneg_left (by omega) (sqn _)
 have y3:=sq_le' (a:=1000*(Y*r)) (b:=10*((1000*w+1475)*M)) (by have:=Int.mul_pos (a:=1000*w+1475) (b:=M) (by omega) hM; omega) (by grind)
 have y4:s*(1000*(Y*r))<=s*(10*((1000*w+1475)*M)):=Int.mul_le_mul_of_nonneg_left y3.2 (by omega)
 have z1:r*(s*M)<=r*(X+s*Y):=Int.mul_le_mul_of_nonneg_left h (by omega)
 have z2:r*(s*M)=10*(w*(s*M))+29*(s*M):=by rw [<-hr]; grind
 grind
def gtP (u p:Pt) (y x:Int):Int:=u.x*(2*x+1-2*p.x)+u.y*(2*y+1-2*p.y)
def mid (A:Pt) (y x:Int):Pt:=⟨2*x+1-2*A.x,2*y+1-2*A.y⟩
structure On (A D V:Pt) (s:Int):Prop where
 h1:1<=s
 t:∃ t,(0<=t/\t<=s)/\(-s<=2*(s*(V.x-A.x)-t*D.x)/\2*(s*(V.x-A.x)-t*D.x)<=s)/\(-s<=2*(s*(V.y-A.y)-t*D.y)/\2*(s*(V.y-A.y)-t*D.y)<=s)
structure Sup (w:Int) (A D:Pt) (s:Int) (y x:Int):Prop where
 h:∀ u:Pt,∃ (V:Pt) (Y:Int),On A D V s/\gtP u V y x<=Y/\1000000*(Y*Y)<=(1000*w+1475)*(1000*w+1475)*dotP u u
structure Nea (w:Int) (A D:Pt) (y x:Int):Prop where
 a:dotP D (mid A y x)<=0->100*dotP (mid A y x) (mid A y x)<=(10*w+29)*(10*w+29)
 b:0<=dotP D (mid ⟨A.x+D.x,A.y+D.y⟩ y x)->100*dotP (mid ⟨A.x+D.x,A.y+D.y⟩ y x) (mid ⟨A.x+D.x,A.y+D.y⟩ y x)<=(10*w+29)*(10*w+29)
 c:100*(crP D (mid A y x)*crP D (mid A y x))<=(10*w+29)*(10*w+29)*dotP D D
theorem cauchy (u v:Pt):dotP u v*dotP u v<=dotP u u*dotP v v:=by
 have:=sqn (u.x*v.y-u.y*v.x)
 unfold dotP
 grind
theorem sup_at {w:Int}{A D:Pt}{s y x:Int}(hw:8<=w) (h:Sup w A D s y x) (u:Pt) (k:Int) (hk:k=0\/k=1) (hu:(k=0->dotP D u<=0)/\(k=1->0<=dotP D u)) {M:Int}(hM:M=gtP u ⟨A.x+k*D.x,A.y+k*D.y⟩ y x) (pos:0<M) :
  100*(M*M)<=(10*w+29)*(10*w+29)*dotP u u:=by
 obtain ⟨V,Y,⟨hs,t,⟨t0,t1⟩,⟨a1,a2⟩,b1,b2⟩,h1,h2⟩:=h.h u
 generalize he1:s*(V.x-A.x)-t*D.x=e1 at *
 generalize he2:s*(V.y-A.y)-t*D.y=e2 at *
 refine comb (s:=s) (X:=2*(u.x*e1+u.y*e2)) (Y:=Y) hs pos hw ?_ ?_ h2
 ·have h3:s*gtP u V y x<=s*Y:=Int.mul_le_mul_of_nonneg_left h1 (by omega)
  have h4:(t-s*k)*dotP D u<=0:=by
   rcases hk with rfl | rfl
   ·have:=hu.1 rfl
    have:=Int.mul_nonneg (a:=t) (b:= -dotP D u) t0 (by omega)
    grind
   ·have:=hu.2 rfl
    have:=Int.mul_nonneg (a:=s-t) (b:=dotP D u) (by omega) this
    grind
  have h5:s*M=s*gtP u V y x+2*(u.x*e1+u.y*e2)+2*((t-s*k)*dotP D u):=by
   rw [hM,<-he1,<-he2]; unfold gtP dotP; grind
  omega
 ·have c:=cauchy u ⟨e1,e2⟩
  have q1:=sq_up (a:=2*e1) (b:=s) ⟨by omega,by omega⟩
  have q2:=sq_up (a:=2*e2) (b:=s) ⟨by omega,by omega⟩
  have uu:0<=dotP u u:=by unfold dotP; have:=sqn u.x; have:=sqn u.y; omega
  have q3:dotP u u*(4*(e1*e1+e2*e2))<=dotP u u*(2*(s*s)):=Int.mul_le_mul_of_nonneg_left (by grind) uu
  unfold dotP at *
  grind
theorem near_of {w:Int}{A D:Pt}{s y x:Int}(hw:8<=w) (h:Sup w A D s y x):Nea w A D y x:=by
 have odd:∀ P:Pt,0<dotP (mid P y x) (mid P y x):=by
  intro P
  have h1:=sqn (2*y+1-2*P.y)
  have h2:1*1<=(2*x+1-2*P.x)*(2*x+1-2*P.x):=by
   rcases Int.le_total 0 (2*x+1-2*P.x) with c | c
   ·exact Int.mul_le_mul (by omega) (by omega) (by omega) (by omega)
   ·have:=Int.mul_le_mul (a:=1) (b:=1) (c:= -(2*x+1-2*P.x)) (d:= -(2*x+1-2*P.x)) (by omega) (by omega) (by omega) (by omega)
    grind
  show 0<(2*x+1-2*P.x)*(2*x+1-2*P.x)+(2*y+1-2*P.y)*(2*y+1-2*P.y)
  omega
 have dv:∀ M:Int,0<M->100*(M*M)<=(10*w+29)*(10*w+29)*M->100*M<=(10*w+29)*(10*w+29):=by
  intro M hM hh
  exact Int.le_of_mul_le_mul_right (a:=M) (by grind) hM
 refine ⟨fun ha=>?_,fun hb=>?_,?_⟩
 ·exact dv _ (odd A) (sup_at hw h (mid A y x) 0 (.inl rfl) ⟨fun _=>ha,fun e=>(by cases e)⟩ (M:=dotP (mid A y x) (mid A y x)) (by unfold gtP dotP mid; grind) (odd A))
 ·exact dv _ (odd _) (sup_at hw h (mid ⟨A.x+D.x,A.y+D.y⟩ y x) 1 (.inr rfl) ⟨fun e=>(by cases e),fun _=>hb⟩ (M:=dotP (mid ⟨A.x+D.x,A.y+D.y⟩ y x) (mid ⟨A.x+D.x,A.y+D.y⟩ y x)) (by unfold gtP dotP mid; grind) (odd _))
 ·rcases Int.lt_trichotomy (crP D (mid A y x)) 0 with c | c | c
  ·have:=sup_at hw h ⟨D.y,-D.x⟩ 0 (.inl rfl) ⟨fun _=>by unfold dotP; grind,fun e=>(by cases e)⟩ (M:= -crP D (mid A y x)) (by unfold gtP crP mid; grind) (by omega)
   have e:dotP ⟨D.y,-D.x⟩ ⟨D.y,-D.x⟩=dotP D D:=by unfold dotP; grind
   rw [e] at this
   grind
  ·rw [c]
   have:0<=dotP D D:=by unfold dotP; have:=sqn D.x; have:=sqn D.y; omega
   have:=Int.mul_nonneg (sqn (10*w+29)) this
   omega
  ·have:=sup_at hw h ⟨-D.y,D.x⟩ 0 (.inl rfl) ⟨fun _=>by unfold dotP; grind,fun e=>(by cases e)⟩ (M:=crP D (mid A y x)) (by unfold gtP crP mid; grind) (by omega)
   have e:dotP ⟨-D.y,D.x⟩ ⟨-D.y,D.x⟩=dotP D D:=by unfold dotP; grind
   rw [e] at this
   grind
def Inn (w:Int) (A D n:Pt) (y x:Int):Prop:=
 dotP (mid A y x) (mid A y x)<=w*w\/dotP (mid ⟨A.x+D.x,A.y+D.y⟩ y x) (mid ⟨A.x+D.x,A.y+D.y⟩ y x)<=w*w\/
  ((0<crP (mid A y x) n/\crP (mid A y x) n<2*crP D n)/\ -(2*crP D n)<crP D (mid A y x)/\crP D (mid A y x)<2*crP D n)
theorem lagr (u v:Pt):dotP u u*dotP v v=dotP u v*dotP u v+crP u v*crP u v:=by unfold dotP crP; grind
structure Nor (w:Int) (D n:Pt):Prop where
 p:0<crP D n
 d:4*(dotP D n*dotP D n)<=2*dotP D D
 lo:10000*(w*w)-28314*w<=40000*dotP n n
theorem inn_of {w:Int}{A D n:Pt}{y x:Int}(hw:8<=w) (hD:0<dotP D D) (hn:Nor w D n)
  (hq:100*(crP D (mid A y x)*crP D (mid A y x))<=(10*w-19)*(10*w-19)*dotP D D)
  (ha:dotP D (mid A y x)<0->dotP D (mid A y x)*dotP D (mid A y x)<=2*dotP D D)
  (hb:2*dotP D D<dotP D (mid A y x)->(dotP D (mid A y x)-2*dotP D D)*(dotP D (mid A y x)-2*dotP D D)<=2*dotP D D):Inn w A D n y x:=by
 generalize hP:mid A y x=P at *
 have hQ:mid ⟨A.x+D.x,A.y+D.y⟩ y x=⟨P.x-2*D.x,P.y-2*D.y⟩:=by rw [<-hP]; unfold mid; congr 1<;>grind
 unfold Inn
 rw [hP,hQ]
 generalize hN:dotP D D=N at *
 generalize hE:crP D n=E at *
 generalize hg:dotP D n=g at *
 generalize hqq:crP D P=q at *
 generalize haa:dotP D P=a at *
 have L1:=lagr D n
 rw [hE,hg,hN] at L1
 have L2:=lagr D P
 rw [hqq,haa,hN] at L2
 have key:N*crP P n=a*E-q*g:=by rw [<-hN,<-haa,<-hE,<-hqq,<-hg]; unfold dotP crP; grind
 have ep:=hn.p
 rw [hE] at ep
 have dg:=hn.d
 rw [hN,hg] at dg
 have lo:=hn.lo
 generalize dotP n n=m at *
 have eE:100*(q*q)<400*(E*E):=by
  have h1:N*(10000*(w*w)-28314*w)<=N*(40000*m):=Int.mul_le_mul_of_nonneg_left lo (by omega)
  have h2:N*8<=N*w:=Int.mul_le_mul_of_nonneg_left hw (by omega)
  grind
 have q2 : -(2*E)<q/\q<2*E:=by
  have h1:=sq_le' (a:=q) (b:=2*E) (by omega) (by grind)
  refine ⟨Int.not_le.1 fun hc=>?_,Int.not_le.1 fun hc=>?_⟩
  ·have e:q = -(2*E):=by omega
   rw [e] at eE; grind
  ·have e:q=2*E:=by omega
   rw [e] at eE; grind
 have cap:∀ c:Int,c*E<=q*g->0<=c->c*c<=2*N:=by
  intro c hc hc0
  rcases Int.le_total 0 g with cg | cg
  ·have h1:(2*E-q)*g>=0:=Int.mul_nonneg (by omega) cg
   have h2:c<=2*g:=Int.le_of_mul_le_mul_right (a:=E) (by grind) ep
   have:=sq_up (a:=c) (b:=2*g) ⟨by omega,h2⟩
   grind
  ·have h1:(2*E+q)*(-g)>=0:=Int.mul_nonneg (by omega) (by omega)
   have h2:c<= -(2*g):=Int.le_of_mul_le_mul_right (a:=E) (by grind) ep
   have:=sq_up (a:=c) (b:= -(2*g)) ⟨by omega,h2⟩
   grind
 have wq:100*(q*q)+200*N<=100*(w*w*N):=by
  have h2:N*8<=N*w:=Int.mul_le_mul_of_nonneg_left hw (by omega)
  grind
 by_cases c1:0<crP P n
 ·by_cases c2:crP P n<2*E
  ·exact .inr (.inr ⟨⟨c1,c2⟩,q2⟩)
  ·refine .inr (.inl ?_)
   have h1:N*(2*E)<=N*crP P n:=Int.mul_le_mul_of_nonneg_left (by omega) (by omega)
   have h2:(a-2*N)*(a-2*N)<=2*N:=by
    rcases Int.lt_or_le (2*N) a with c | c
    ·exact hb c
    ·have:=cap (2*N-a)
     have hx:(2*N-a)*E<= -q*g:=by grind
     rcases Int.le_total 0 g with cg | cg
     ·have h3:(2*E+q)*g>=0:=Int.mul_nonneg (by omega) cg
      have h4:2*N-a<=2*g:=Int.le_of_mul_le_mul_right (a:=E) (by grind) ep
      have:=sq_up (a:=2*N-a) (b:=2*g) ⟨by omega,h4⟩
      grind
     ·have h3:(2*E-q)*(-g)>=0:=Int.mul_nonneg (by omega) (by omega)
      have h4:2*N-a<= -(2*g):=Int.le_of_mul_le_mul_right (a:=E) (by grind) ep
      have:=sq_up (a:=2*N-a) (b:= -(2*g)) ⟨by omega,h4⟩
      grind
   have L3:=lagr D ⟨P.x-2*D.x,P.y-2*D.y⟩
   have e1:dotP D ⟨P.x-2*D.x,P.y-2*D.y⟩=a-2*N:=by rw [<-haa,<-hN]; unfold dotP; grind
   have e2:crP D ⟨P.x-2*D.x,P.y-2*D.y⟩=q:=by rw [<-hqq]; unfold crP; grind
   rw [e1,e2,hN] at L3
   exact Int.le_of_mul_le_mul_left (a:=N) (by grind) hD
 ·refine .inl ?_
  have h1:0<=N*(-crP P n):=Int.mul_nonneg (by omega) (by omega)
  have h2:a*a<=2*N:=by
   rcases Int.lt_or_le a 0 with c | c
   ·exact ha c
   ·exact cap a (by grind) c
  exact Int.le_of_mul_le_mul_left (a:=N) (by grind) hD
theorem clampd {w X Y:Int}(hw:8<=w/\w<=30) (hX:X % 2=1) (hY:Y % 2=1) (h:100*(X*X+Y*Y)<=(10*w+29)*(10*w+29)) :
  ∃ a b:Int,(-6<=a/\a<=6)/\(-6<=b/\b<=6)/\(X+2*a)*(X+2*a)+(Y+2*b)*(Y+2*b)<=w*w:=by
 have one:∀ Z:Int,Z % 2=1->∃ a:Int,(-6<=a/\a<=6)/\((Z+2*a=1/\ -13<Z/\Z<13)\/(13<=Z/\Z+2*a=Z-12)\/(13<= -Z/\Z+2*a=Z+12)):=by
  intro Z hZ
  by_cases c1:13<=Z
  ·exact ⟨-6,by omega,.inr (.inl ⟨c1,by omega⟩)⟩
  ·by_cases c2:13<= -Z
   ·exact ⟨6,by omega,.inr (.inr ⟨c2,by omega⟩)⟩
   ·exact ⟨(1-Z) / 2,by omega,.inl (by omega)⟩
 obtain ⟨a,ha,ca⟩:=one X hX
 obtain ⟨b,hb,cb⟩:=one Y hY
 refine ⟨a,b,ha,hb,?_⟩
 have sx:=sqn X
 have sy:=sqn Y
 have bX:=sq_le' (a:=10*X) (b:=10*w+29) (by omega) (by grind)
 have bY:=sq_le' (a:=10*Y) (b:=10*w+29) (by omega) (by grind)
 have ww:8*w<=w*w:=Int.mul_le_mul_of_nonneg_right hw.1 (by omega)
 have small:∀ Z:Int,13<=Z->10*Z<=10*w+29->(Z-12)*(Z-12)+1<=w*w:=by
  intro Z h1 h2
  have:=sq_up (a:=Z-12) (b:=w-9) ⟨by omega,by omega⟩
  grind
 rcases ca with ⟨ea,ca⟩ | ⟨ca,ea⟩ | ⟨ca,ea⟩<;>rcases cb with ⟨eb,cb⟩ | ⟨cb,eb⟩ | ⟨cb,eb⟩<;>rw [ea,eb]
 ·omega
 ·have:=small Y cb (by omega); omega
 ·have:=small (-Y) cb (by omega); grind
 ·have:=small X ca (by omega); omega
 ·grind
 ·grind
 ·have:=small (-X) ca (by omega); grind
 ·grind
 ·grind
theorem move {w:Int}{A D n m:Pt}{l y x:Int}(hw:8<=w/\w<=30) (hD:0<dotP D D) (hn:Nor w D n)
  (mp:0<crP D m) (md:4*(dotP D m*dotP D m)<=2*dotP D D) (ml:11<=dotP m m/\dotP m m<=22)
  (hl:1024<=l) (l1:l*l<=1048576*dotP D D) (l2:1048576*dotP D D<=(l+1)*(l+1)) (h:Nea w A D y x) :
  ∃ a b:Int,(-6<=a/\a<=6)/\(-6<=b/\b<=6)/\Inn w A D n (y+b) (x+a):=by
 by_cases c1:dotP D (mid A y x)<=0
 ·obtain ⟨a,b,ha,hb,hh⟩:=clampd hw (X:=(mid A y x).x) (Y:=(mid A y x).y) (by show (2*x+1-2*A.x) % 2=1; omega) (by show (2*y+1-2*A.y) % 2=1; omega) (h.a c1)
  refine ⟨a,b,ha,hb,.inl ?_⟩
  unfold mid dotP at *
  grind
 by_cases c2:0<=dotP D (mid ⟨A.x+D.x,A.y+D.y⟩ y x)
 ·obtain ⟨a,b,ha,hb,hh⟩:=clampd hw (X:=(mid ⟨A.x+D.x,A.y+D.y⟩ y x).x) (Y:=(mid ⟨A.x+D.x,A.y+D.y⟩ y x).y) (by show (2*x+1-2*(A.x+D.x)) % 2=1; omega) (by show (2*y+1-2*(A.y+D.y)) % 2=1; omega) (h.b c2)
  refine ⟨a,b,ha,hb,.inr (.inl ?_)⟩
  unfold mid dotP at *
  grind
 have eB:dotP D (mid ⟨A.x+D.x,A.y+D.y⟩ y x)=dotP D (mid A y x)-2*dotP D D:=by unfold mid dotP; grind
 have hc:=h.c
 have mm:(-4<=m.x/\m.x<=4)/\ -4<=m.y/\m.y<=4:=by
  have h1:=sqn m.x
  have h2:=sqn m.y
  have e:dotP m m=m.x*m.x+m.y*m.y:=rfl
  have h3:∀ z:Int,z*z<=22-> -4<=z/\z<=4:=by
   intro z hz
   constructor
   ·refine Int.not_lt.1 fun hc=>?_
    have:=Int.mul_le_mul (a:=5) (b:=5) (c:= -z) (d:= -z) (by omega) (by omega) (by omega) (by omega)
    grind
   ·refine Int.not_lt.1 fun hc=>?_
    have:=Int.mul_le_mul (a:=5) (b:=5) (c:=z) (d:=z) (by omega) (by omega) (by omega) (by omega)
    grind
  exact ⟨h3 _ (by omega),h3 _ (by omega)⟩
 by_cases c3:100*(crP D (mid A y x)*crP D (mid A y x))<=(10*w-19)*(10*w-19)*dotP D D
 ·refine ⟨0,0,by omega,by omega,?_⟩
  rw [Int.add_zero,Int.add_zero]
  exact inn_of hw.1 hD hn c3 (fun hx=>absurd hx (by omega)) (fun hx=>absurd hx (by omega))
 have L:=lagr D m
 generalize hN:dotP D D=N at *
 generalize hX:crP D m=X at *
 have x1:2*(X*X)>=21*N:=by
  have h1:N*11<=N*dotP m m:=Int.mul_le_mul_of_nonneg_left ml.1 (by omega)
  grind
 have x2:X*X<=22*N:=by
  have h1:N*dotP m m<=N*22:=Int.mul_le_mul_of_nonneg_left ml.2 (by omega)
  have h2:=sqn (dotP D m)
  grind
 have lX1:=sq_le' (a:=324*l) (b:=100*(1024*X)) (by omega) (by grind)
 have lX2:=sq_le' (a:=10000*(1024*X)) (b:=46905*(l+1)) (by omega) (by grind)
 have fin:∀ (s q:Int),(s=1\/s = -1)->q=s*crP D (mid A y x)->0<q->Inn w A D n (y + -s*m.y) (x + -s*m.x):=by
  intro s q hs hq pq
  have ss:s*s=1:=by rcases hs with rfl | rfl<;>rfl
  have eq:crP D (mid A y x)*crP D (mid A y x)=q*q:=by rw [hq]; grind
  rw [eq] at hc c3
  have b1:=sq_le' (a:=10240*q) (b:=(10*w+29)*(l+1)) (Int.mul_nonneg (by omega) (by omega)) (by
   have h1:(10*w+29)*(10*w+29)*(1048576*N)<=(10*w+29)*(10*w+29)*((l+1)*(l+1)):=Int.mul_le_mul_of_nonneg_left l2 (sqn _)
   grind)
  have b2:=sq_le' (a:=(10*w-19)*l) (b:=10240*q) (by omega) (by
   have h1:(10*w-19)*(10*w-19)*(l*l)<=(10*w-19)*(10*w-19)*(1048576*N):=Int.mul_le_mul_of_nonneg_left l1 (sqn _)
   grind)
  have wl:8*l<=w*l:=Int.mul_le_mul_of_nonneg_right hw.1 (by omega)
  have z1:(10*w+29)*(l+1)=10*(w*l)+29*l+10*w+29:=by grind
  have z2:(10*w-19)*l=10*(w*l)-19*l:=by grind
  have b3:=sq_up (a:=10240*(q-2*X)) (b:=(10*w-19)*l) ⟨by omega,by omega⟩
  have b4:(10*w-19)*(10*w-19)*(l*l)<=(10*w-19)*(10*w-19)*(1048576*N):=Int.mul_le_mul_of_nonneg_left l1 (sqn _)
  have e1:crP D (mid A (y + -s*m.y) (x + -s*m.x))=s*(q-2*X):=by
   rw [hq,<-hX]
   rcases hs with rfl | rfl<;>(unfold crP mid; grind)
  have e2:dotP D (mid A (y + -s*m.y) (x + -s*m.x))=dotP D (mid A y x)-2*(s*dotP D m):=by
   rcases hs with rfl | rfl<;>(unfold dotP mid; grind)
  have e3:4*(s*dotP D m*(s*dotP D m))<=2*N:=by
   have:s*dotP D m*(s*dotP D m)=s*s*(dotP D m*dotP D m):=by grind
   rw [this,ss]; omega
  refine inn_of hw.1 (by omega) hn ?_ ?_ ?_
  ·rw [e1,hN]
   have:s*(q-2*X)*(s*(q-2*X))=s*s*((q-2*X)*(q-2*X)):=by grind
   rw [this,ss]
   grind
  ·intro hx
   rw [e2] at hx ⊢
   rw [hN]
   generalize s*dotP D m=z at *
   have:=sq_up (a:=dotP D (mid A y x)-2*z) (b:=2*z) ⟨by omega,by omega⟩
   grind
  ·intro hx
   rw [e2] at hx ⊢
   rw [hN] at hx ⊢
   generalize s*dotP D m=z at *
   have:=sq_up (a:=dotP D (mid A y x)-2*z-2*N) (b:= -(2*z)) ⟨by omega,by omega⟩
   grind
 rcases Int.lt_trichotomy (crP D (mid A y x)) 0 with c | c | c
 ·have:=fin (-1) (-crP D (mid A y x)) (.inr rfl) (by grind) (by omega)
  refine ⟨- -1*m.x,- -1*m.y,by omega,by omega,this⟩
 ·rw [c] at c3
  exact absurd (Int.mul_nonneg (sqn (10*w-19)) (show 0<=N by omega)) (by omega)
 ·have:=fin 1 (crP D (mid A y x)) (.inl rfl) (by grind) c
  exact ⟨-1*m.x,-1*m.y,by omega,by omega,this⟩
def Kc (a b:Pt) (y x:Int):Int:=(b.x-a.x)*(2*y+1-2*a.y)-(b.y-a.y)*(2*x+1-2*a.x)
def cE (a b:Pt) (y x:Int):Int:=if fy a b y<=x then up y a-up y b else 0
theorem first_le (e:Ed) (h:1<=e.dy) (y x:Int):e.first y<=x<->e.num y<=2*e.dy*x:=by
 unfold Ed.first
 have d1:=Int.ediv_mul_le (-(e.num y)) (show 2*e.dy≠0 by omega)
 have d2:=Int.lt_ediv_add_one_mul_self (-(e.num y)) (show 0<2*e.dy by omega)
 generalize -(e.num y) / (2*e.dy)=z at *
 constructor
 ·intro hx
  have:=Int.mul_le_mul_of_nonneg_left (show -z<=x from hx) (show 0<=2*e.dy by omega)
  grind
 ·intro hx
  refine Int.not_lt.1 fun hc=>?_
  have:=Int.mul_le_mul_of_nonneg_left (show x+1<= -z by omega) (show 0<=2*e.dy by omega)
  grind
theorem cE_dn {a b:Pt}{y x:Int}(h1:a.y<=y) (h2:y<b.y):cE a b y x=if Kc a b y x<=0 then 1 else 0:=by
 have e1:up y a=1:=if_pos h1
 have e2:up y b=0:=if_neg (by omega)
 have e3:fy a b y=Ed.first ⟨a.x,a.y,b.y,b.x-a.x,b.y-a.y,1⟩ y:=if_pos (by omega)
 have e4:=first_le ⟨a.x,a.y,b.y,b.x-a.x,b.y-a.y,1⟩ (by show 1<=b.y-a.y; omega) y x
 have e5:Ed.num ⟨a.x,a.y,b.y,b.x-a.x,b.y-a.y,1⟩ y<=2*(b.y-a.y)*x<->Kc a b y x<=0:=by
  show 2*(b.y-a.y)*a.x+(b.x-a.x)*(2*(y-a.y)+1)-(b.y-a.y)<=_<->_
  unfold Kc
  constructor<;>intro h<;>grind
 unfold cE
 rw [e1,e2,e3]
 by_cases c:Kc a b y x<=0
 ·rw [if_pos (e4.2 (e5.2 c)),if_pos c]; rfl
 ·rw [if_neg (fun h=>c (e5.1 (e4.1 h))),if_neg c]
theorem cE_up {a b:Pt}{y x:Int}(h1:b.y<=y) (h2:y<a.y):cE a b y x=if 0<=Kc a b y x then -1 else 0:=by
 have e1:up y a=0:=if_neg (by omega)
 have e2:up y b=1:=if_pos h1
 have e3:fy a b y=Ed.first ⟨b.x,b.y,a.y,a.x-b.x,a.y-b.y,-1⟩ y:=if_neg (by omega)
 have e4:=first_le ⟨b.x,b.y,a.y,a.x-b.x,a.y-b.y,-1⟩ (by show 1<=a.y-b.y; omega) y x
 have e5:Ed.num ⟨b.x,b.y,a.y,a.x-b.x,a.y-b.y,-1⟩ y<=2*(a.y-b.y)*x<->0<=Kc a b y x:=by
  show 2*(a.y-b.y)*b.x+(a.x-b.x)*(2*(y-b.y)+1)-(a.y-b.y)<=_<->_
  unfold Kc
  constructor<;>intro h<;>grind
 unfold cE
 rw [e1,e2,e3]
 by_cases c:0<=Kc a b y x
 ·rw [if_pos (e4.2 (e5.2 c)),if_pos c]; rfl
 ·rw [if_neg (fun h=>c (e5.1 (e4.1 h))),if_neg c]
theorem cE_no {a b:Pt}{y x:Int}(h:up y a=up y b):cE a b y x=0:=by unfold cE; split<;>omega
theorem cE_out {a b u:Pt}{y x:Int}(ha:0<gtP u a y x) (hb:0<gtP u b y x):cE a b y x=if 0<u.x then up y a-up y b else 0:=by
 have key:∀ p q:Pt,0<gtP u p y x->0<gtP u q y x->p.y<=y->y<q.y->0<u.x*(-(2*Kc p q y x)):=by
  intro p q hp hq h1 h2
  have e1:0<(-(2*y+1-2*q.y))*gtP u p y x:=Int.mul_pos (by omega) hp
  have e2:0<(2*y+1-2*p.y)*gtP u q y x:=Int.mul_pos (by omega) hq
  have e3:u.x*(-(2*Kc p q y x))=(-(2*y+1-2*q.y))*gtP u p y x+(2*y+1-2*p.y)*gtP u q y x:=by unfold gtP Kc; grind
  omega
 have sgn:∀ K:Int,0<u.x*(-(2*K))->(0<u.x->K<0)/\(¬ 0<u.x->0<K):=by
  intro K hK
  constructor
  ·intro h
   refine Int.not_le.1 fun hc=>?_
   have:=Int.mul_nonneg (a:=u.x) (b:=2*K) (by omega) (by omega)
   grind
  ·intro h
   refine Int.not_le.1 fun hc=>?_
   have:=Int.mul_nonneg (a:= -u.x) (b:= -(2*K)) (by omega) (by omega)
   grind
 by_cases c1:a.y<=y<;>by_cases c2:b.y<=y
 ·have:up y a=up y b:=by unfold up; rw [if_pos c1,if_pos c2]
  rw [cE_no this]; split<;>omega
 ·have s:=sgn _ (key a b ha hb c1 (by omega))
  have e1:up y a=1:=if_pos c1
  have e2:up y b=0:=if_neg c2
  rw [cE_dn c1 (by omega),e1,e2]
  by_cases c:0<u.x
  ·have:=s.1 c
   rw [if_pos c,if_pos (by omega)]; rfl
  ·have:=s.2 c
   rw [if_neg c,if_neg (by omega)]
 ·have s:=sgn _ (key b a hb ha c2 (by omega))
  have e1:up y a=0:=if_neg c1
  have e2:up y b=1:=if_pos c2
  have e3:Kc b a y x = -Kc a b y x:=by unfold Kc; grind
  rw [e3] at s
  rw [cE_up c2 (by omega),e1,e2]
  by_cases c:0<u.x
  ·have:=s.1 c
   rw [if_pos c,if_pos (by omega)]; rfl
  ·have:=s.2 c
   rw [if_neg c,if_neg (by omega)]
 ·have:up y a=up y b:=by unfold up; rw [if_neg c1,if_neg c2]
  rw [cE_no this]; split<;>omega
def w4 (T:Nat->Pt) (y x:Int):Int:=((cE (T 0) (T 1) y x+cE (T 1) (T 2) y x)+cE (T 2) (T 3) y x)+cE (T 3) (T 0) y x
theorem hull {T:Nat->Pt}{y x:Int}(h:w4 T y x≠0) (u:Pt):∃ j,j<4/\gtP u (T j) y x<=0:=by
 refine Classical.byContradiction fun hc=>h ?_
 have k:∀ j,j<4->0<gtP u (T j) y x:=fun j hj=>Int.not_le.1 fun h=>hc ⟨j,hj,h⟩
 unfold w4
 rw [cE_out (k 0 (by decide)) (k 1 (by decide)),cE_out (k 1 (by decide)) (k 2 (by decide)),cE_out (k 2 (by decide)) (k 3 (by decide)),cE_out (k 3 (by decide)) (k 0 (by decide))]
 split<;>omega
theorem w4_in {T:Nat->Pt}{y x:Int}(h:(Kc (T 0) (T 1) y x<0/\Kc (T 1) (T 2) y x<0/\Kc (T 2) (T 3) y x<0/\Kc (T 3) (T 0) y x<0)\/(0<Kc (T 0) (T 1) y x/\0<Kc (T 1) (T 2) y x/\0<Kc (T 2) (T 3) y x/\0<Kc (T 3) (T 0) y x))
  (ha:∃ j,j<4/\(T j).y<=y) (hb:∃ j,j<4/\y<(T j).y):w4 T y x≠0:=by
 have A:∀ a b:Pt,Kc a b y x<0->cE a b y x=if a.y<=y/\y<b.y then 1 else 0:=by
  intro a b hk
  by_cases c1:a.y<=y<;>by_cases c2:b.y<=y
  ·rw [cE_no (by unfold up; rw [if_pos c1,if_pos c2]),if_neg (by omega)]
  ·rw [cE_dn c1 (by omega),if_pos (by omega),if_pos (by omega)]
  ·rw [cE_up c2 (by omega),if_neg (by omega),if_neg (by omega)]
  ·rw [cE_no (by unfold up; rw [if_neg c1,if_neg c2]),if_neg (by omega)]
 have B:∀ a b:Pt,0<Kc a b y x->cE a b y x=if b.y<=y/\y<a.y then -1 else 0:=by
  intro a b hk
  by_cases c1:a.y<=y<;>by_cases c2:b.y<=y
  ·rw [cE_no (by unfold up; rw [if_pos c1,if_pos c2]),if_neg (by omega)]
  ·rw [cE_dn c1 (by omega),if_neg (by omega),if_neg (by omega)]
  ·rw [cE_up c2 (by omega),if_pos (by omega),if_pos (by omega)]
  ·rw [cE_no (by unfold up; rw [if_neg c1,if_neg c2]),if_neg (by omega)]
 have ha':(T 0).y<=y\/(T 1).y<=y\/(T 2).y<=y\/(T 3).y<=y:=by
  obtain ⟨j,hj,h⟩:=ha
  match j,hj with
  | 0,_=>exact .inl h
  | 1,_=>exact .inr (.inl h)
  | 2,_=>exact .inr (.inr (.inl h))
  | 3,_=>exact .inr (.inr (.inr h))
 have hb':y<(T 0).y\/y<(T 1).y\/y<(T 2).y\/y<(T 3).y:=by
  obtain ⟨j,hj,h⟩:=hb
  match j,hj with
  | 0,_=>exact .inl h
  | 1,_=>exact .inr (.inl h)
  | 2,_=>exact .inr (.inr (.inl h))
  | 3,_=>exact .inr (.inr (.inr h))
 unfold w4
 rcases h with ⟨h0,h1,h2,h3⟩ | ⟨h0,h1,h2,h3⟩
 ·rw [A _ _ h0,A _ _ h1,A _ _ h2,A _ _ h3]
  clear A B ha hb h0 h1 h2 h3
  generalize (T 0).y=a at *; generalize (T 1).y=b at *; generalize (T 2).y=c at *; generalize (T 3).y=d at *
  repeat' split
  all_goals omega
 ·rw [B _ _ h0,B _ _ h1,B _ _ h2,B _ _ h3]
  clear A B ha hb h0 h1 h2 h3
  generalize (T 0).y=a at *; generalize (T 1).y=b at *; generalize (T 2).y=c at *; generalize (T 3).y=d at *
  repeat' split
  all_goals omega
def Cor (A D n:Pt) (T:Nat->Pt):Prop:=
 (T 0=⟨A.x+n.x,A.y+n.y⟩/\T 1=⟨A.x+D.x+n.x,A.y+D.y+n.y⟩/\T 2=⟨A.x+D.x-n.x,A.y+D.y-n.y⟩/\T 3=⟨A.x-n.x,A.y-n.y⟩)\/
 (T 3=⟨A.x+n.x,A.y+n.y⟩/\T 2=⟨A.x+D.x+n.x,A.y+D.y+n.y⟩/\T 1=⟨A.x+D.x-n.x,A.y+D.y-n.y⟩/\T 0=⟨A.x-n.x,A.y-n.y⟩)
theorem par_in {A D n:Pt}{T:Nat->Pt}{y x:Int}(h:Cor A D n T) (p1:0<crP (mid A y x) n) (p2:crP (mid A y x) n<2*crP D n) (q1 : -(2*crP D n)<crP D (mid A y x)) (q2:crP D (mid A y x)<2*crP D n):w4 T y x≠0:=by
 have hP:(mid A y x).y=2*y+1-2*A.y:=rfl
 have k01:Kc ⟨A.x+n.x,A.y+n.y⟩ ⟨A.x+D.x+n.x,A.y+D.y+n.y⟩ y x=crP D (mid A y x)-2*crP D n:=by unfold Kc crP mid; grind
 have k12:Kc ⟨A.x+D.x+n.x,A.y+D.y+n.y⟩ ⟨A.x+D.x-n.x,A.y+D.y-n.y⟩ y x=2*crP (mid A y x) n-4*crP D n:=by unfold Kc crP mid; grind
 have k23:Kc ⟨A.x+D.x-n.x,A.y+D.y-n.y⟩ ⟨A.x-n.x,A.y-n.y⟩ y x = -(crP D (mid A y x)+2*crP D n):=by unfold Kc crP mid; grind
 have k30:Kc ⟨A.x-n.x,A.y-n.y⟩ ⟨A.x+n.x,A.y+n.y⟩ y x = -(2*crP (mid A y x) n):=by unfold Kc crP mid; grind
 have op:∀ a b:Pt,Kc b a y x = -Kc a b y x:=by intro a b; unfold Kc; grind
 have key:crP D n*(mid A y x).y=crP (mid A y x) n*D.y+crP D (mid A y x)*n.y:=by unfold crP; grind
 have lo:A.y+n.y<=y\/A.y+D.y+n.y<=y\/A.y+D.y-n.y<=y\/A.y-n.y<=y:=by
  refine Classical.byContradiction fun hc=>?_
  generalize crP (mid A y x) n=p at *
  generalize crP D (mid A y x)=q at *
  generalize crP D n=E at *
  rw [hP] at key
  have a1:=Int.mul_pos (a:=2*E-p) (b:=2*n.y-(2*y+1-2*A.y)) (by omega) (by omega)
  have a2:=Int.mul_pos (a:=p) (b:=2*n.y+2*D.y-(2*y+1-2*A.y)) (by omega) (by omega)
  have a3:=Int.mul_pos (a:=2*E-p) (b:= -2*n.y-(2*y+1-2*A.y)) (by omega) (by omega)
  have a4:=Int.mul_pos (a:=p) (b:= -2*n.y+2*D.y-(2*y+1-2*A.y)) (by omega) (by omega)
  rcases Int.le_total 0 n.y with c | c
  ·have:=Int.mul_nonneg (a:=2*E+q) (b:=n.y) (by omega) c
   grind
  ·have:=Int.mul_nonneg (a:=2*E-q) (b:= -n.y) (by omega) (by omega)
   grind
 have hi:y<A.y+n.y\/y<A.y+D.y+n.y\/y<A.y+D.y-n.y\/y<A.y-n.y:=by
  refine Classical.byContradiction fun hc=>?_
  generalize crP (mid A y x) n=p at *
  generalize crP D (mid A y x)=q at *
  generalize crP D n=E at *
  rw [hP] at key
  have a1:=Int.mul_pos (a:=2*E-p) (b:= -2*n.y+(2*y+1-2*A.y)) (by omega) (by omega)
  have a2:=Int.mul_pos (a:=p) (b:= -2*n.y-2*D.y+(2*y+1-2*A.y)) (by omega) (by omega)
  have a3:=Int.mul_pos (a:=2*E-p) (b:=2*n.y+(2*y+1-2*A.y)) (by omega) (by omega)
  have a4:=Int.mul_pos (a:=p) (b:=2*n.y-2*D.y+(2*y+1-2*A.y)) (by omega) (by omega)
  rcases Int.le_total 0 n.y with c | c
  ·have:=Int.mul_nonneg (a:=2*E-q) (b:=n.y) (by omega) c
   grind
  ·have:=Int.mul_nonneg (a:=2*E+q) (b:= -n.y) (by omega) (by omega)
   grind
 rcases h with ⟨e0,e1,e2,e3⟩ | ⟨e0,e1,e2,e3⟩
 ·refine w4_in (.inl ?_) ?_ ?_
  ·rw [e0,e1,e2,e3,k01,k12,k23,k30]; omega
  ·rcases lo with h | h | h | h
   ·exact ⟨0,by decide,by rw [e0]; exact h⟩
   ·exact ⟨1,by decide,by rw [e1]; exact h⟩
   ·exact ⟨2,by decide,by rw [e2]; exact h⟩
   ·exact ⟨3,by decide,by rw [e3]; exact h⟩
  ·rcases hi with h | h | h | h
   ·exact ⟨0,by decide,by rw [e0]; exact h⟩
   ·exact ⟨1,by decide,by rw [e1]; exact h⟩
   ·exact ⟨2,by decide,by rw [e2]; exact h⟩
   ·exact ⟨3,by decide,by rw [e3]; exact h⟩
 ·refine w4_in (.inr ?_) ?_ ?_
  ·rw [e0,e1,e2,e3,op,k23,op,k12,op,k01,op,k30]; omega
  ·rcases lo with h | h | h | h
   ·exact ⟨3,by decide,by rw [e0]; exact h⟩
   ·exact ⟨2,by decide,by rw [e1]; exact h⟩
   ·exact ⟨1,by decide,by rw [e2]; exact h⟩
   ·exact ⟨0,by decide,by rw [e3]; exact h⟩
  ·rcases hi with h | h | h | h
   ·exact ⟨3,by decide,by rw [e0]; exact h⟩
   ·exact ⟨2,by decide,by rw [e1]; exact h⟩
   ·exact ⟨1,by decide,by rw [e2]; exact h⟩
   ·exact ⟨0,by decide,by rw [e3]; exact h⟩
end Go.Proofs.YtmhofgchidojoaaGreat.Tdg
set_option linter.unusedSimpArgs false
set_option linter.unusedVariables false
namespace Go.Proofs.YtmhofgchidojoaaGreat.Tdp
open Go.RowKit Sx Num Aff Con Rga Rgl Rgm Rgn Fla Fle Flp Flf Flg Flu Sta Stb Stc Sto Ste Stl Stm Stv Str Tdg
set_option maxRecDepth 100000
theorem quad_E (o:Olr) (t:Nat) (hm:o.m t=4):(winL o t).E=((mkE (o.p t 0) (o.p t 1)++mkE (o.p t 1) (o.p t 2))++mkE (o.p t 2) (o.p t 3))++mkE (o.p t 3) (o.p t 0):=by
 rw [winL_eq]
 show []++(o.li (t+0)).ed (o.m (t+0))=_
 rw [Nat.add_zero,hm]
 have e:∀ j,(o.li t).ed (j+1)=(o.li t).ed j++mkE (o.p t j) (o.p t ((j+1) % 4)):=fun j=>by
  show (o.li t).ed j++mkE (o.p t j) (o.p t ((j+1) % o.m t))=_
  rw [hm]
 rw [e 3,e 2,e 1,e 0]
 rfl
theorem wE_w4 (o:Olr) (t:Nat) (hm:o.m t=4) (y x:Int):wE (eI (winL o t).E) (winL o t).E.length y x=w4 (o.p t) y x:=by
 have h:wE (eI (winL o t).E) (winL o t).E.length y x=sl (cellE y x) (winL o t).E:=sl_eI (cellE y x) _
 rw [h,quad_E o t hm,sl_app,sl_app,sl_app,cell_mkE,cell_mkE,cell_mkE,cell_mkE]
 rfl
theorem part_mem {o:Olr}{t:Nat}(hm:o.m t=4) (y x:Int):mem (fillL ins1 (winL o t)) y x=true<->((-8192<=y/\y<8192)/\ -8192<=x/\x<8192)/\w4 (o.p t) y x≠0:=by
 rw [fill_mem]
 unfold chi
 rw [Bool.and_eq_true,decide_eq_true_eq,wE_w4 o t hm]
 unfold ins1
 rw [decide_eq_true_eq]
theorem mem_dsk' (c:Pt) (w:Int) (y x:Int):∀ i,mem (dsk c w i) y x=true<->(dY0 c w<=y/\y<dY0 c w+i)/\1<=dRest c w y/\dX0 c w y<=x/\x<dX1 c w y
 | 0=>by
  show false=true<->_
  refine ⟨fun h=>(by cases h),fun h=>?_⟩
  have:=h.1
  omega
 | i+1=>by
  show mem (dsk c w i++dRow c w (dY0 c w+i)) y x=true<->_
  rw [mem_app,Bool.or_eq_true,mem_dsk' c w y x i]
  have hrow:mem (dRow c w (dY0 c w+i)) y x=true<->y=dY0 c w+i/\1<=dRest c w y/\dX0 c w y<=x/\x<dX1 c w y:=by
   unfold dRow
   split
   ·rename_i hr
    refine ⟨fun h=>(by cases h),fun h=>?_⟩
    rw [h.1] at h
    omega
   ·rename_i hr
    split
    ·rw [mem_one,inR_iff]
     constructor
     ·rintro ⟨h1,h2,h3⟩
      have h1:dY0 c w+i=y:=h1
      rw [<-h1]
      exact ⟨rfl,by omega,h2,h3⟩
     ·rintro ⟨h1,h2,h3,h4⟩
      rw [<-h1]
      exact ⟨rfl,h3,h4⟩
    ·rename_i hx
     refine ⟨fun h=>(by cases h),fun h=>?_⟩
     rw [<-h.1] at hx
     omega
  rw [hrow]
  constructor
  ·rintro (⟨h1,h2⟩ | ⟨h1,h2⟩)
   ·exact ⟨by omega,h2⟩
   ·exact ⟨by omega,h2⟩
  ·rintro ⟨h1,h2⟩
   by_cases e:y=dY0 c w+i
   ·exact .inr ⟨e,h2⟩
   ·exact .inl ⟨by omega,h2⟩
theorem disc_mem {c:Pt}{w:Int}(hc:small 300 c) (hw:2<=w/\w<=60) (y x:Int):mem (dsk c w (dN c w)) y x=true<->dotP (mid c y x) (mid c y x)<=w*w:=by
 obtain ⟨⟨c1,c2⟩,c3,c4⟩:=hc
 have hh:dH w=w / 2+1:=by
  unfold dH
  rw [Int.tdiv_eq_ediv_of_nonneg (by omega)]
 have e0:dY0 c w=c.y-dH w:=if_neg (by omega)
 have e1:dY1 c w=c.y+dH w:=if_neg (by omega)
 have eM:dotP (mid c y x) (mid c y x)=(2*x+1-2*c.x)*(2*x+1-2*c.x)+(2*y+1-2*c.y)*(2*y+1-2*c.y):=rfl
 rw [mem_dsk',eM]
 unfold dN
 rw [e0,e1,hh]
 have eR:dRest c w y=w*w-(2*y+1-2*c.y)*(2*y+1-2*c.y):=rfl
 have sX:=sqn (2*x+1-2*c.x)
 have sY:=sqn (2*y+1-2*c.y)
 have hs:=isq_spec (dRest c w y).toNat
 have hk:dK c w y=((isq (dRest c w y).toNat:Int)+1) / 2:=by
  unfold dK
  rw [Int.tdiv_eq_ediv_of_nonneg (by omega)]
 have x0:dX0 c w y=if (-8192:Int)>c.x-dK c w y then -8192 else c.x-dK c w y:=rfl
 have x1:dX1 c w y=if (8192:Int)<c.x+dK c w y then 8192 else c.x+dK c w y:=rfl
 have r1:((isq (dRest c w y).toNat:Int))*(isq (dRest c w y).toNat:Int)<=((dRest c w y).toNat:Int):=by
  rw [<-Int.natCast_mul]; exact Int.ofNat_le.2 hs.1
 have r0:(0:Int)<=(isq (dRest c w y).toNat:Int):=Int.natCast_nonneg _
 have rge:∀ a:Int,0<=a->a*a<=dRest c w y->a<=(isq (dRest c w y).toNat:Int):=by
  intro a ha h
  have h1:a.toNat*a.toNat<=(dRest c w y).toNat:=by
   have e:((a.toNat*a.toNat:Nat):Int)=a*a:=by
    rw [Int.natCast_mul,show ((a.toNat:Nat):Int)=a by omega]
   omega
  have:=isq_ge h1
  omega
 generalize (isq (dRest c w y).toNat:Int)=r at *
 have ww:=sqn w
 have rw':r<=60:=by
  refine Int.not_lt.1 fun hc=>?_
  have h1:61*61<=r*r:=Int.mul_le_mul (by omega) (by omega) (by omega) (by omega)
  have h2:w*w<=60*60:=Int.mul_le_mul hw.2 hw.2 (by omega) (by omega)
  omega
 have x0':dX0 c w y=c.x-dK c w y:=by rw [x0]; exact if_neg (by omega)
 have x1':dX1 c w y=c.x+dK c w y:=by rw [x1]; exact if_neg (by omega)
 rw [x0',x1',hk]
 constructor
 ·rintro ⟨h1,h2,h3,h4⟩
  have:=sq_up (a:=2*x+1-2*c.x) (b:=r) ⟨by omega,by omega⟩
  omega
 ·intro h
  have a1:=sq_le' (a:=2*y+1-2*c.y) (b:=w) (by omega) (by omega)
  have odd:1<=(2*x+1-2*c.x)*(2*x+1-2*c.x):=by
   rcases Int.le_total 0 (2*x+1-2*c.x) with c' | c'
   ·exact Int.mul_le_mul (a:=1) (b:=1) (c:=2*x+1-2*c.x) (d:=2*x+1-2*c.x) (by omega) (by omega) (by omega) (by omega)
   ·have:=Int.mul_le_mul (a:=1) (b:=1) (c:= -(2*x+1-2*c.x)) (d:= -(2*x+1-2*c.x)) (by omega) (by omega) (by omega) (by omega)
    grind
  have a2:2*x+1-2*c.x<=r/\ -(2*x+1-2*c.x)<=r:=by
   rcases Int.le_total 0 (2*x+1-2*c.x) with c' | c'
   ·exact ⟨rge _ c' (by omega),by omega⟩
   ·exact ⟨by omega,rge _ (by omega) (by rw [Int.neg_mul_neg]; omega)⟩
  exact ⟨by omega,by omega,by omega,by omega⟩
theorem fR_mem (o:Olr) (y x:Int):∀ i,mem (fR o i) y x=true<->∃ t,t<i/\mem (fillL ins1 (winL o t)) y x=true
 | 0=>⟨fun h=>(by cases h),fun ⟨t,h,_⟩=>absurd h (Nat.not_lt_zero t)⟩
 | i+1=>by
  show mem (fR o i++fillL ins1 (winL o i)) y x=true<->_
  rw [mem_app,Bool.or_eq_true,fR_mem o y x i]
  constructor
  ·rintro (⟨t,ht,h⟩ | h)
   ·exact ⟨t,by omega,h⟩
   ·exact ⟨i,by omega,h⟩
  ·rintro ⟨t,ht,h⟩
   by_cases e:t=i
   ·exact .inr (e▸h)
   ·exact .inl ⟨t,by omega,h⟩
theorem dR_mem (o:Olr) (w y x:Int):∀ i,mem (dR o w i) y x=true<->∃ t,t<i/\mem (dsk (o.d t) w (dN (o.d t) w)) y x=true
 | 0=>⟨fun h=>(by cases h),fun ⟨t,h,_⟩=>absurd h (Nat.not_lt_zero t)⟩
 | i+1=>by
  show mem (dR o w i++dsk (o.d i) w (dN (o.d i) w)) y x=true<->_
  rw [mem_app,Bool.or_eq_true,dR_mem o w y x i]
  constructor
  ·rintro (⟨t,ht,h⟩ | h)
   ·exact ⟨t,by omega,h⟩
   ·exact ⟨i,by omega,h⟩
  ·rintro ⟨t,ht,h⟩
   by_cases e:t=i
   ·exact .inr (e▸h)
   ·exact .inl ⟨t,by omega,h⟩
theorem line_mem (s:Sty) (l:Li) (y x:Int):mem (lineR s l) y x=true<->(∃ t,t<(outX s l).n/\mem (fillL ins1 (winL (outX s l) t)) y x=true)\/∃ t,t<(outX s l).k/\mem (dsk ((outX s l).d t) s.w (dN ((outX s l).d t) s.w)) y x=true:=by
 unfold lineR
 rw [mem_app,Bool.or_eq_true,fR_mem,dR_mem]
theorem sR_mem (s:Sty) (g:Lns) (y x:Int):∀ i,mem (sR s g i) y x=true<->∃ t,t<i/\mem (lineR s (g.f t)) y x=true
 | 0=>⟨fun h=>(by cases h),fun ⟨t,h,_⟩=>absurd h (Nat.not_lt_zero t)⟩
 | i+1=>by
  show mem (sR s g i++lineR s (g.f i)) y x=true<->_
  rw [mem_app,Bool.or_eq_true,sR_mem s g y x i]
  constructor
  ·rintro (⟨t,ht,h⟩ | h)
   ·exact ⟨t,by omega,h⟩
   ·exact ⟨i,by omega,h⟩
  ·rintro ⟨t,ht,h⟩
   by_cases e:t=i
   ·exact .inr (e▸h)
   ·exact .inl ⟨t,by omega,h⟩
structure Jo (o u:Olr):Prop where
 n:u.n=o.n
 m:u.m=o.m
 p:u.p=o.p
 j:u.join=o.join
 c:u.cap=o.cap
theorem dsc_jo (o:Olr) (c:Pt):Jo o (o.dsc c):=⟨rfl,rfl,rfl,rfl,rfl⟩
theorem dsc_old {o:Olr}{c:Pt}{t:Nat}(h:t<o.k):(o.dsc c).d t=o.d t:=by
 show (⟨bif decide (t<o.k) then (o.d t).x else c.x,bif decide (t<o.k) then (o.d t).y else c.y⟩:Pt)=_
 rw [decide_eq_true h]
 rfl
theorem dsc_new (o:Olr) (c:Pt):(o.dsc c).d o.k=c:=by
 show (⟨bif decide (o.k<o.k) then (o.d o.k).x else c.x,bif decide (o.k<o.k) then (o.d o.k).y else c.y⟩:Pt)=_
 rw [decide_eq_false (Nat.lt_irrefl _)]
 rfl
theorem jns1 {o:Olr}{S:Nat->Sid}(hj:o.join=1):∀ i,Jo o (o.jns S i)/\(o.jns S i).k=o.k+i/\∀ t,t<i->(o.jns S i).d (o.k+t)=(S (t+1)).p
 | 0=>⟨⟨rfl,rfl,rfl,rfl,rfl⟩,rfl,fun t h=>absurd h (Nat.not_lt_zero t)⟩
 | i+1=>by
  obtain ⟨⟨a,b,c,d,e⟩,hk,hd⟩:=jns1 (o:=o) (S:=S) hj i
  have ej:o.jns S (i+1)=(o.jns S i).dsc (S (i+1)).p:=if_pos (d.trans hj)
  rw [ej]
  refine ⟨⟨a,b,c,d,e⟩,by show (o.jns S i).k+1=_; omega,fun t ht=>?_⟩
  by_cases h:t=i
  ·rw [h,<-hk]; exact dsc_new _ _
  ·rw [dsc_old (by omega)]; exact hd t (by omega)
theorem sds1 {o:Olr}{S:Nat->Sid}(hn:o.n=0):∀ i,((o.sds S i).n=i/\(o.sds S i).k=o.k/\(o.sds S i).join=o.join/\(o.sds S i).cap=o.cap)/\∀ t,t<i->(o.sds S i).m t=4/\∀ j,(o.sds S i).p t j=sPart (S t) j
 | 0=>⟨⟨hn,rfl,rfl,rfl⟩,fun t h=>absurd h (Nat.not_lt_zero t)⟩
 | i+1=>by
  obtain ⟨⟨a,b,c,d⟩,h⟩:=sds1 (S:=S) hn i
  refine ⟨⟨by show (o.sds S i).n+1=_; omega,b,c,d⟩,fun t ht=>?_⟩
  show (bif decide (t=(o.sds S i).n) then 4 else (o.sds S i).m t)=4/\∀ j,(⟨bif decide (t=(o.sds S i).n) then (sPart (S i) j).x else ((o.sds S i).p t j).x,bif decide (t=(o.sds S i).n) then (sPart (S i) j).y else ((o.sds S i).p t j).y⟩:Pt)=_
  by_cases e:t=i
  ·rw [decide_eq_true (e.trans a.symm),e]
   exact ⟨rfl,fun j=>rfl⟩
  ·rw [decide_eq_false (fun h=>e (h.trans a))]
   exact ⟨(h t (by omega)).1,fun j=>(h t (by omega)).2 j⟩
theorem cor_part {s:Sid}{T:Nat->Pt}(hd:s.d=subP s.q s.p) (h:(∀ j,j<4->T j=sPart s j)\/(∀ j,j<4->T j=sPart s (3-j))):Cor s.p s.d s.n T:=by
 have e0:sPart s 0=⟨s.p.x+s.n.x,s.p.y+s.n.y⟩:=rfl
 have e1:sPart s 1=⟨s.p.x+s.d.x+s.n.x,s.p.y+s.d.y+s.n.y⟩:=by
  rw [hd]
  show (⟨s.q.x+s.n.x,s.q.y+s.n.y⟩:Pt)=⟨s.p.x+(s.q.x-s.p.x)+s.n.x,s.p.y+(s.q.y-s.p.y)+s.n.y⟩
  congr 1<;>omega
 have e2:sPart s 2=⟨s.p.x+s.d.x-s.n.x,s.p.y+s.d.y-s.n.y⟩:=by
  rw [hd]
  show (⟨s.q.x-s.n.x,s.q.y-s.n.y⟩:Pt)=⟨s.p.x+(s.q.x-s.p.x)-s.n.x,s.p.y+(s.q.y-s.p.y)-s.n.y⟩
  congr 1<;>omega
 have e3:sPart s 3=⟨s.p.x-s.n.x,s.p.y-s.n.y⟩:=rfl
 rcases h with h | h
 ·exact .inl ⟨(h 0 (by decide)).trans e0,(h 1 (by decide)).trans e1,(h 2 (by decide)).trans e2,(h 3 (by decide)).trans e3⟩
 ·exact .inr ⟨(h 3 (by decide)).trans e0,(h 2 (by decide)).trans e1,(h 1 (by decide)).trans e2,(h 0 (by decide)).trans e3⟩
theorem ends1 {o:Olr}{l:Li}{S:Nat->Sid}{c:Nat}(hj:o.join=1) (hc:o.cap=0\/o.cap=1):Jo o (o.ends l S c):=by
 unfold Olr.ends
 split
 ·rw [show o.jn (S (c-1)) (S 0)=o.dsc (S 0).p from if_pos hj]
  exact dsc_jo _ _
 ·unfold Olr.cp
  rcases hc with h | h
  ·rw [if_neg (by omega),if_neg (by omega)]
   exact ⟨rfl,rfl,rfl,rfl,rfl⟩
  ·rw [if_pos h]
   exact ⟨rfl,rfl,rfl,rfl,rfl⟩
noncomputable def bod (s:Sty) (l:Li):Olr:=((o0 s).sds (sdA s.w l) (sdN l (clean l).length)).jns (sdA s.w l) (sdN l (clean l).length-1)
theorem ln_eq {s:Sty}{l:Li}(h2:2<=(clean l).length):lnO s l=(bod s l).ends l (sdA s.w l) (sdN l (clean l).length):=by
 unfold lnO Olr.ln
 rw [if_neg (by omega)]
 rfl
theorem bod1 {s:Sty}{l:Li}(hj:s.join=1):((bod s l).join=1/\(bod s l).cap=s.cap)/\(bod s l).n=sdN l (clean l).length/\((bod s l).k=sdN l (clean l).length-1/\∀ t,t<sdN l (clean l).length-1->(bod s l).d t=(sdA s.w l (t+1)).p)/\
  ∀ t,t<sdN l (clean l).length->(bod s l).m t=4/\∀ j,(bod s l).p t j=sPart (sdA s.w l t) j:=by
 obtain ⟨⟨a,b,c,d⟩,h⟩:=sds1 (o:=o0 s) (S:=sdA s.w l) rfl (sdN l (clean l).length)
 obtain ⟨⟨e1,e2,e3,e4,e5⟩,hk,hd⟩:=jns1 (S:=sdA s.w l) (c.trans hj) (sdN l (clean l).length-1)
 have b:((o0 s).sds (sdA s.w l) (sdN l (clean l).length)).k=0:=b
 rw [b] at hk hd
 refine ⟨⟨e4.trans (c.trans hj),e5.trans d⟩,e1.trans a,⟨hk.trans (Nat.zero_add _),fun t ht=>?_⟩,fun t ht=>?_⟩
 ·have:=hd t ht
  rw [Nat.zero_add] at this
  exact this
 ·refine ⟨(congrFun e2 t).trans (h t ht).1,fun j=>(congrFun (congrFun e3 t) j).trans ((h t ht).2 j)⟩
theorem out_parts {s:Sty}{l:Li}(hj:s.join=1) (hc:s.cap=0\/s.cap=1) (h2:2<=(clean l).length):(outX s l).n=sdN l (clean l).length/\
  ∀ t,t<sdN l (clean l).length->(outX s l).m t=4/\Cor (sdA s.w l t).p (sdA s.w l t).d (sdA s.w l t).n ((outX s l).p t):=by
 obtain ⟨⟨a1,a2⟩,a3,-,a5⟩:=bod1 (l:=l) hj
 have J:=ends1 (l:=l) (S:=sdA s.w l) (c:=sdN l (clean l).length) a1 (by rw [a2]; exact hc)
 rw [<-ln_eq h2] at J
 rw [outX_eq]
 have en:(lnO s l).n=sdN l (clean l).length:=J.n.trans a3
 refine ⟨en,fun t ht=>?_⟩
 have em:(lnO s l).m t=4:=(congrFun J.m t).trans (a5 t ht).1
 have ep:∀ j,(lnO s l).p t j=sPart (sdA s.w l t) j:=fun j=>(congrFun (congrFun J.p t) j).trans ((a5 t ht).2 j)
 refine ⟨em,cor_part (by rw [sdA_eq]; rfl) ?_⟩
 have e:∀ j,(outO s l).p t j=⟨bif decide (t<(lnO s l).n/\neg (lnO s l) t) then ((lnO s l).p t ((lnO s l).m t-1-j)).x else ((lnO s l).p t j).x,bif decide (t<(lnO s l).n/\neg (lnO s l) t) then ((lnO s l).p t ((lnO s l).m t-1-j)).y else ((lnO s l).p t j).y⟩:=fun j=>rfl
 by_cases hn:t<(lnO s l).n/\neg (lnO s l) t
 ·right
  intro j hj
  rw [e,decide_eq_true hn,em,<-ep]
  rfl
 ·left
  intro j hj
  rw [e,decide_eq_false hn,<-ep]
  rfl
theorem out_k (s:Sty) (l:Li):(outX s l).k=(lnO s l).k/\(outX s l).d=(lnO s l).d:=by rw [outX_eq]; exact ⟨rfl,rfl⟩
theorem sd_p (w:Int) (l:Li) (t:Nat):(sdA w l t).p=gP (clean l) t/\(sdA w l t).q=gP (clean l) (if t+1<(clean l).length then t+1 else 0):=by rw [sdA_eq]; exact ⟨rfl,rfl⟩
theorem out_d1 {s:Sty}{l:Li}(hj:s.join=1) (hc:s.cap=1) (h2:2<=(clean l).length) {i:Nat}(hi:i<(clean l).length):∃ t,t<(outX s l).k/\(outX s l).d t=gP (clean l) i:=by
 obtain ⟨⟨a1,a2⟩,a3,⟨a4,a5⟩,-⟩:=bod1 (l:=l) hj
 obtain ⟨k1,k2⟩:=out_k s l
 rw [k1,k2,ln_eq h2]
 unfold Olr.ends
 by_cases c:l.c=true
 ·have eN:sdN l (clean l).length=(clean l).length:=by unfold sdN; rw [if_neg (by omega),if_pos c]
  rw [if_pos c,show (bod s l).jn (sdA s.w l (sdN l (clean l).length-1)) (sdA s.w l 0)=(bod s l).dsc (sdA s.w l 0).p from if_pos a1]
  by_cases h0:i=0
  ·refine ⟨(bod s l).k,Nat.lt_succ_self _,?_⟩
   rw [dsc_new,(sd_p _ _ _).1,h0]
  ·refine ⟨i-1,by show i-1<(bod s l).k+1; omega,?_⟩
   rw [dsc_old (by omega),a5 _ (by omega),(sd_p _ _ _).1,show i-1+1=i by omega]
 ·have eN:sdN l (clean l).length=(clean l).length-1:=by unfold sdN; rw [if_neg (by omega),if_neg c]
  rw [if_neg c,show (bod s l).cp (sdA s.w l 0) (sdA s.w l (sdN l (clean l).length-1))=(bod s l).dsc2 (sdA s.w l 0).p (sdA s.w l (sdN l (clean l).length-1)).q from if_pos (a2.trans hc)]
  have eD:∀ t,((bod s l).dsc2 (sdA s.w l 0).p (sdA s.w l (sdN l (clean l).length-1)).q).d t=⟨bif decide (t<(bod s l).k) then ((bod s l).d t).x else bif decide (t-(bod s l).k=1) then (sdA s.w l (sdN l (clean l).length-1)).q.x else (sdA s.w l 0).p.x,bif decide (t<(bod s l).k) then ((bod s l).d t).y else bif decide (t-(bod s l).k=1) then (sdA s.w l (sdN l (clean l).length-1)).q.y else (sdA s.w l 0).p.y⟩:=fun t=>rfl
  by_cases h0:i=0
  ·refine ⟨(bod s l).k,by show _<(bod s l).k+2; omega,?_⟩
   rw [eD,decide_eq_false (Nat.lt_irrefl _),decide_eq_false (show ¬ (bod s l).k-(bod s l).k=1 by omega),h0,<-(sd_p s.w l 0).1]
   rfl
  ·by_cases hl:i=(clean l).length-1
   ·refine ⟨(bod s l).k+1,by show _<(bod s l).k+2; omega,?_⟩
    have eq:=(sd_p s.w l (sdN l (clean l).length-1)).2
    rw [if_pos (by omega),show sdN l (clean l).length-1+1=i by omega] at eq
    rw [eD,decide_eq_false (show ¬ (bod s l).k+1<(bod s l).k by omega),decide_eq_true (show (bod s l).k+1-(bod s l).k=1 by omega),<-eq]
    rfl
   ·refine ⟨i-1,by show i-1<(bod s l).k+2; omega,?_⟩
    rw [eD,decide_eq_true (show i-1<(bod s l).k by omega),a5 _ (by omega),(sd_p _ _ _).1,show i-1+1=i by omega]
    rfl
theorem out_d0 {s:Sty}{l:Li}(hj:s.join=1) (hc:s.cap=0) (c:l.c=false) (h2:2<=(clean l).length) {t:Nat}(ht:t<(outX s l).k):∃ i,i+1<(clean l).length/\(outX s l).d t=gP (clean l) i:=by
 obtain ⟨⟨a1,a2⟩,a3,⟨a4,a5⟩,-⟩:=bod1 (l:=l) hj
 obtain ⟨k1,k2⟩:=out_k s l
 have eN:sdN l (clean l).length=(clean l).length-1:=by unfold sdN; rw [if_neg (by omega),if_neg (by rw [c]; decide)]
 have e:lnO s l=bod s l:=by
  rw [ln_eq h2]
  unfold Olr.ends
  rw [if_neg (by rw [c]; decide)]
  unfold Olr.cp
  rw [if_neg (by omega),if_neg (by omega)]
 rw [k1,e] at ht
 rw [k2,e]
 exact ⟨t+1,by omega,(a5 t (by omega)).trans (sd_p _ _ _).1⟩
theorem out_dc {s:Sty}{l:Li}(hj:s.join=1) (hc:s.cap=0\/s.cap=1) (h2:2<=(clean l).length) {t:Nat}(ht:t<(outX s l).k):∃ i,i<(clean l).length/\(outX s l).d t=gP (clean l) i:=by
 obtain ⟨⟨a1,a2⟩,a3,⟨a4,a5⟩,-⟩:=bod1 (l:=l) hj
 obtain ⟨k1,k2⟩:=out_k s l
 have nN:1<=sdN l (clean l).length/\sdN l (clean l).length<=(clean l).length:=by unfold sdN; split<;>(try split)<;>omega
 rw [k1,ln_eq h2] at ht
 rw [k2,ln_eq h2]
 unfold Olr.ends at ht ⊢
 by_cases c:l.c=true
 ·rw [if_pos c,show (bod s l).jn (sdA s.w l (sdN l (clean l).length-1)) (sdA s.w l 0)=(bod s l).dsc (sdA s.w l 0).p from if_pos a1] at ht ⊢
  have ht:t<(bod s l).k+1:=ht
  by_cases h0:t=(bod s l).k
  ·exact ⟨0,by omega,by rw [h0,dsc_new,(sd_p _ _ _).1]⟩
  ·exact ⟨t+1,by omega,by rw [dsc_old (by omega),a5 _ (by omega),(sd_p _ _ _).1]⟩
 ·rw [if_neg c] at ht ⊢
  have eN:sdN l (clean l).length=(clean l).length-1:=by unfold sdN; rw [if_neg (by omega),if_neg c]
  rcases hc with hc | hc
  ·have e:(bod s l).cp (sdA s.w l 0) (sdA s.w l (sdN l (clean l).length-1))=bod s l:=by
    unfold Olr.cp
    rw [if_neg (by omega),if_neg (by omega)]
   rw [e] at ht ⊢
   exact ⟨t+1,by omega,(a5 t (by omega)).trans (sd_p _ _ _).1⟩
  ·rw [show (bod s l).cp (sdA s.w l 0) (sdA s.w l (sdN l (clean l).length-1))=(bod s l).dsc2 (sdA s.w l 0).p (sdA s.w l (sdN l (clean l).length-1)).q from if_pos (a2.trans hc)] at ht ⊢
   have ht:t<(bod s l).k+2:=ht
   have eD:∀ t,((bod s l).dsc2 (sdA s.w l 0).p (sdA s.w l (sdN l (clean l).length-1)).q).d t=⟨bif decide (t<(bod s l).k) then ((bod s l).d t).x else bif decide (t-(bod s l).k=1) then (sdA s.w l (sdN l (clean l).length-1)).q.x else (sdA s.w l 0).p.x,bif decide (t<(bod s l).k) then ((bod s l).d t).y else bif decide (t-(bod s l).k=1) then (sdA s.w l (sdN l (clean l).length-1)).q.y else (sdA s.w l 0).p.y⟩:=fun t=>rfl
   by_cases c1:t<(bod s l).k
   ·refine ⟨t+1,by omega,?_⟩
    rw [eD,decide_eq_true c1,a5 _ (by omega),(sd_p _ _ _).1]
    rfl
   ·by_cases c2:t-(bod s l).k=1
    ·refine ⟨if sdN l (clean l).length-1+1<(clean l).length then sdN l (clean l).length-1+1 else 0,by split<;>omega,?_⟩
     rw [eD,decide_eq_false c1,decide_eq_true c2,<-(sd_p s.w l (sdN l (clean l).length-1)).2]
     rfl
    ·refine ⟨0,by omega,?_⟩
     rw [eD,decide_eq_false c1,decide_eq_false c2,<-(sd_p s.w l 0).1]
     rfl
theorem out_dot {s:Sty}{l:Li}(hc:s.cap=0) (h2:(clean l).length<2):(outX s l).n=0/\(outX s l).k=0:=by
 have e:lnO s l=o0 s:=by
  unfold lnO Olr.ln
  rw [if_pos h2]
  split
  ·unfold Olr.dt
   rw [if_neg (show ¬ (o0 s).cap=1 by show ¬ s.cap=1; omega),if_neg (show ¬ (o0 s).cap=2 by show ¬ s.cap=2; omega)]
  ·rfl
 rw [outX_eq]
 unfold outO
 rw [e]
 exact ⟨rfl,rfl⟩
end Go.Proofs.YtmhofgchidojoaaGreat.Tdp
set_option linter.unusedSimpArgs false
set_option linter.unusedVariables false
namespace Go.Proofs.YtmhofgchidojoaaGreat.Dsi
open Go.RowKit Sx Num Aff Con Dsh
set_option maxRecDepth 100000
def spWithin:FSpec:=mkSpec 22 (γ:=Int) (fun | [.int _ x]=>some x | _=>none) (fun x=>[.int .i64 x]) (fun x=> -32767<=x/\x<=32767) (fun _=> .lit true)
theorem ok_within:SpecOK Tryz.prog spWithin:=by
 refine spec_sound (specs:=[]) (all_ok trivial) (eqs:=[]) (fun _ _ h=>(List.not_mem_nil h).elim) Aff.mixed Tryz.func22 rfl (by kernel_rfl) (fun _ _=>by kernel_rfl) (fun g=>A0) (fun g=>Nat.le_of_ble_eq_true (by kernel_rfl)) ?_
 rintro x hx
 refine vc_of (B:=True/\True/\True/\True/\Sx.Br (decide ((-32767:Int)<=x)) (True/\True/\True/\True/\True/\Sx.Ask (decide (x<=(32767:Int))=true)) (True/\True/\True/\Sx.Ask (false=true))) (by kernel_rfl) ?_
 simp only [ask_iff,br_iff,eq_self,true_and,and_true,implies_true,forall_const,decide_eq_true_eq,decide_eq_false_iff_not,ne_eq,Nat.mul_one,Nat.add_zero,Nat.zero_add]
 exact ⟨fun _=>hx.2,fun h=>absurd hx.1 h⟩
structure Lns where
 n:Nat
 f:Nat->Li
def lnsS (g:Lns):SV:= .sl g.n 2 (fun i=>lst (liL (g.f i)))
def lnsD:SV->Nat->Li
 | .sl _ _ f=>fun i=>liD (f i)
 | _=>fun _=>⟨0,fun _=>⟨0,0⟩,false⟩
def _root_.Go.Proofs.YtmhofgchidojoaaGreat.Dsh.Li.fin (l:Li):Prop:=l.n<=9223372036854775807/\∀ i,i<l.n->small 32767 (l.f i)
def Lns.fin (g:Lns):Prop:=g.n<=9223372036854775807/\∀ i,i<g.n->Li.fin (g.f i)
def ckOut (g:Lns):Inv:=⟨Int,fun i=>0<=i/\i<=g.n,fun i=>⟨[(7,lnsS g),(8,.int .i64 g.n),(9,.int .i64 i)],[]⟩,fun i=>(g.n-i).toNat⟩
def ckIn (g:Lns) (i:Int):Inv:=⟨Int,fun j=>0<=j/\j<=(g.f i.toNat).n,fun j=>⟨[(7,lnsS g),(8,.int .i64 g.n),(9,.int .i64 i),(14,.sl (g.f i.toNat).n 2 (fun j=>lst (ptL ((g.f i.toNat).f j)))),(15,.int .i64 (g.f i.toNat).n),(16,.int .i64 j)],[]⟩,fun j=>((g.f i.toNat).n-j).toNat⟩
def spCheckFi:FSpec:=mkSpec 10 (γ:=Lns) (fun | [s]=>some ⟨slLen s,lnsD s⟩ | _=>none) (fun g=>[lnsS g]) Lns.fin (fun _=> .int .i64 0)
theorem ok_checkFi:SpecOK Tryz.prog spCheckFi:=by
 refine spec_sound (specs:=[spWithin]) (all_ok (⟨ok_within,trivial⟩)) (eqs:=[]) (fun _ _ h=>(List.not_mem_nil h).elim) Aff.mixed Tryz.func10 rfl (by kernel_rfl) (fun _ _=>by kernel_rfl) (fun g=>(⟨[(2,.nest (ckOut g) (fun i=>[(5,.inv (ckIn g i))]))],[]⟩:Ann)) (fun g=>Nat.le_of_ble_eq_true (by kernel_rfl)) ?_
 rintro l hl
 refine vc_of (B:=let K:=IntKind.i64;let A:=Sx.Ask;True/\True/\True/\True/\(∃ g:Int,A ((ckOut l).pre g)/\((A (l.n=l.n)/\∀ i:Nat,i<l.n->(True/\A ((l.f i).n=(l.f i).n)/\∀ i_1:Nat,i_1<(l.f i).n->(True/\A (K=K)/\A (((l.f i).f i_1).x=((l.f i).f i_1).x))/\A (K=K)/\A (((l.f i).f i_1).y=((l.f i).f i_1).y))/\A ((l.f i).c=(l.f i).c))/\(A (K=K)/\A ((↑l.n:Int)=(↑l.n:Int)))/\(A (K=K)/\A ((0:Int)=g))/\True)/\True)/\∀ g:Int,(ckOut l).pre g->True/\Sx.Br (decide (g<(↑l.n:Int))) (A ((0:Int)<=g/\g<(↑l.n:Int))/\True/\True/\True/\True/\True/\True/\True/\(∃ g_1:Int,A ((ckIn l g).pre g_1)/\((A (l.n=l.n)/\∀ i:Nat,i<l.n->(True/\A ((l.f i).n=(l.f i).n)/\∀ i_1:Nat,i_1<(l.f i).n->(True/\A (K=K)/\A (((l.f i).f i_1).x=((l.f i).f i_1).x))/\A (K=K)/\A (((l.f i).f i_1).y=((l.f i).f i_1).y))/\A ((l.f i).c=(l.f i).c))/\(A (K=K)/\A ((↑l.n:Int)=(↑l.n:Int)))/\(A (K=K)/\A (g=g))/\(A ((l.f g.toNat).n=(l.f g.toNat).n)/\∀ i:Nat,i<(l.f g.toNat).n->(True/\A (K=K)/\A (((l.f g.toNat).f i).x=((l.f g.toNat).f i).x))/\A (K=K)/\A (((l.f g.toNat).f i).y=((l.f g.toNat).f i).y))/\(A (K=K)/\A ((↑(l.f g.toNat).n:Int)=(↑(l.f g.toNat).n:Int)))/\(A (K=K)/\A ((0:Int)=g_1))/\True)/\True)/\∀ g_1:Int,(ckIn l g).pre g_1->True/\Sx.Br (decide (g_1<(↑(l.f g.toNat).n:Int))) (A ((0:Int)<=g_1/\g_1<(↑(l.f g.toNat).n:Int))/\True/\True/\True/\True/\True/\(((A (K=K)/\A (((l.f g.toNat).f g_1.toNat).x=((l.f g.toNat).f g_1.toNat).x))/\True)/\A ((-32767:Int)<=((l.f g.toNat).f g_1.toNat).x/\((l.f g.toNat).f g_1.toNat).x<=(32767:Int)))/\True/\True/\True/\True/\(((A (K=K)/\A (((l.f g.toNat).f g_1.toNat).y=((l.f g.toNat).f g_1.toNat).y))/\True)/\A ((-32767:Int)<=((l.f g.toNat).f g_1.toNat).y/\((l.f g.toNat).f g_1.toNat).y<=(32767:Int)))/\True/\True/\A ((-9223372036854775808:Int)<=g_1+(1:Int)/\g_1+(1:Int)<=(9223372036854775807:Int))/\True/\∃ (g':Int),A ((ckIn l g).pre g')/\(((A (l.n=l.n)/\∀ i:Nat,i<l.n->(True/\A ((l.f i).n=(l.f i).n)/\∀ i_1:Nat,i_1<(l.f i).n->(True/\A (K=K)/\A (((l.f i).f i_1).x=((l.f i).f i_1).x))/\A (K=K)/\A (((l.f i).f i_1).y=((l.f i).f i_1).y))/\A ((l.f i).c=(l.f i).c))/\(A (K=K)/\A ((↑l.n:Int)=(↑l.n:Int)))/\(A (K=K)/\A (g=g))/\(A ((l.f g.toNat).n=(l.f g.toNat).n)/\∀ i:Nat,i<(l.f g.toNat).n->(True/\A (K=K)/\A (((l.f g.toNat).f i).x=((l.f g.toNat).f i).x))/\A (K=K)/\A (((l.f g.toNat).f i).y=((l.f g.toNat).f i).y))/\(A (K=K)/\A ((↑(l.f g.toNat).n:Int)=(↑(l.f g.toNat).n:Int)))/\(A (K=K)/\A (g_1+(1:Int)=g'))/\True)/\True)/\A ((ckIn l g).meas g'<(ckIn l g).meas g_1)) (A ((-9223372036854775808:Int)<=g+(1:Int)/\g+(1:Int)<=(9223372036854775807:Int))/\True/\∃ (g':Int),A ((ckOut l).pre g')/\(((A (l.n=l.n)/\∀ i:Nat,i<l.n->(True/\A ((l.f i).n=(l.f i).n)/\∀ i_1:Nat,i_1<(l.f i).n->(True/\A (K=K)/\A (((l.f i).f i_1).x=((l.f i).f i_1).x))/\A (K=K)/\A (((l.f i).f i_1).y=((l.f i).f i_1).y))/\A ((l.f i).c=(l.f i).c))/\(A (K=K)/\A ((↑l.n:Int)=(↑l.n:Int)))/\(A (K=K)/\A (g+(1:Int)=g'))/\True)/\True)/\A ((ckOut l).meas g'<(ckOut l).meas g))) (True/\True/\A (K=K)/\A ((0:Int)=(0:Int)))) (by kernel_rfl) ?_
 simp only [ask_iff,br_iff,eq_self,true_and,and_true,implies_true,forall_const,decide_eq_true_eq,decide_eq_false_iff_not,ne_eq,Nat.mul_one,Nat.add_zero,Nat.zero_add]
 have hl1:(l.n:Int)<=9223372036854775807:=by have:=hl.1; omega
 refine ⟨⟨0,⟨Int.le_refl _,Int.natCast_nonneg _⟩,rfl⟩,fun i hi h=>?_⟩
 have hi:0<=i/\i<=l.n:=hi
 have hp:=hl.2 i.toNat (by omega)
 have hn:((l.f i.toNat).n:Int)<=9223372036854775807:=by have:=hp.1; omega
 refine ⟨⟨hi.1,h⟩,⟨0,⟨Int.le_refl _,Int.natCast_nonneg _⟩,rfl⟩,fun j hj=>?_⟩
 have hj:0<=j/\j<=(l.f i.toNat).n:=hj
 refine ⟨fun hlt=>?_,fun hge=>⟨by omega,i+1,⟨by omega,by omega⟩,rfl,?_⟩⟩
 ·have hq:=hp.2 j.toNat (by omega)
  refine ⟨⟨hj.1,hlt⟩,hq.1,hq.2,by omega,j+1,⟨by omega,by omega⟩,rfl,?_⟩
  show (((l.f i.toNat).n:Int)-(j+1)).toNat<(((l.f i.toNat).n:Int)-j).toNat
  omega
 ·show ((l.n:Int)-(i+1)).toNat<((l.n:Int)-i).toNat
  omega
theorem six {s t:Sd}(h:s=t):(((((s.p.x=t.p.x/\s.p.y=t.p.y)/\s.q.x=t.q.x)/\s.q.y=t.q.y)/\s.o=t.o)/\s.size=t.size):=by
 rw [h]; exact ⟨⟨⟨⟨⟨rfl,rfl⟩,rfl⟩,rfl⟩,rfl⟩,rfl⟩
structure SkG where
 m:Nat
 s:Nat->Sd
 a:Int
def sdsD:SV->Nat->Sd
 | .sl _ _ f=>fun i=>sdD (f i)
 | _=>fun _=>⟨⟨0,0⟩,⟨0,0⟩,0,0⟩
def skD:List SV->List SO->Option SkG
 | [_,.int _ a],[.cells _ c _]=>some ⟨slLen (c 0),sdsD (c 0),a⟩
 | _,_=>none
def sk (s:Nat->Sd) (a:Int):Nat->Nat
 | 0=>0
 | m+1=>if (s 0).size=0\/(s 0).o+(s 0).size<a then sk (fun j=>s (j+1)) a m+1 else 0
def sdsS (m:Nat) (s:Nat->Sd):SV:= .sl m 6 (fun j=>lst (sdL (s j)))
def sides_in (m:Nat) (s:Nat->Sd):Prop:=m<=65536/\∀ j,j<m->(small 32767 (s j).p/\small 32767 (s j).q)/\(0<=(s j).o/\(s j).o<=549755813888)/\0<=(s j).size/\(s j).size<=549755813888
def SkG.ok (g:SkG):Prop:=sides_in g.m g.s/\0<=g.a/\g.a<=549755813888
def SkG.k (g:SkG):Nat:=sk g.s g.a g.m
def skInv (g:SkG):Inv:=⟨Nat,fun i=>i<=g.m/\sk g.s g.a g.m=i+sk (fun j=>g.s (j+i)) g.a (g.m-i),fun i=>⟨[(0,.own 0 0),(1,.int .i64 g.a)],[.cells 1 (lst [sdsS (g.m-i) (fun j=>g.s (j+i))]) 47]⟩,fun i=>g.m-i⟩
def spSeek:FSpec:=mkSpecM 25 [.arg 0] skD (fun g=>[.own 0 0,.int .i64 g.a]) (fun g=>[.cells 1 (lst [sdsS g.m g.s]) 47]) SkG.ok
 (fun _=> .tup 0 (lst [])) (fun g=>[.cells 1 (lst [sdsS (g.m-g.k) (fun j=>g.s (j+g.k))]) 47])
theorem ok_seek:SpecOK Tryz.prog spSeek:=by
 refine spec_soundM (specs:=[]) (all_ok trivial) (eqs:=[]) (fun _ _ h=>(List.not_mem_nil h).elim) Aff.mixed Tryz.func25 rfl (by kernel_rfl) (fun _ _=>by kernel_rfl) (fun g=>(⟨[(0,.inv (skInv g))],[]⟩:Ann)) false (fun g=>Nat.le_of_ble_eq_true (by kernel_rfl)) ?_
 rintro g hg
 refine vc_of (B:=let U:=Int.ofNat;let J:=Int.toNat;let K:=IntKind.i64;let A:=Sx.Ask;(∃ g_1:Nat,A ((skInv g).pre g_1)/\True/\(A ((0:Nat)=(0:Nat))/\(A (K=K)/\A (g.a=g.a))/\True)/\(True/\A (g.m=g.m-g_1)/\∀ i:Nat,i<g.m-g_1->(((((True/\A (K=K)/\A ((g.s i).p.x=(g.s (i+g_1)).p.x))/\A (K=K)/\A ((g.s i).p.y=(g.s (i+g_1)).p.y))/\A (K=K)/\A ((g.s i).q.x=(g.s (i+g_1)).q.x))/\A (K=K)/\A ((g.s i).q.y=(g.s (i+g_1)).q.y))/\A (K=K)/\A ((g.s i).o=(g.s (i+g_1)).o))/\A (K=K)/\A ((g.s i).size=(g.s (i+g_1)).size))/\True)/\∀ g_1:Nat,(skInv g).pre g_1->True/\True/\True/\True/\True/\True/\True/\Sx.Br (decide ((0:Int)<(↑(g.m-g_1):Int))) (True/\True/\True/\True/\A ((0:Int)<=(0:Int)/\(0:Int)<(↑(g.m-g_1):Int))/\True/\True/\True/\True/\Sx.Br (decide ((g.s (J (0:Int)+g_1)).size=(0:Int))) (True/\True/\True/\True/\True/\True/\True/\A ((0:Int)<=U (1:Nat)/\U (1:Nat)<=U (g.m-g_1)/\U (g.m-g_1)<=U (g.m-g_1)/\U (g.m-g_1)<=(↑(g.m-g_1):Int))/\True/\True/\True/\∃ (g':Nat),A ((skInv g).pre g')/\True/\((A ((0:Nat)=(0:Nat))/\(A (K=K)/\A (g.a=g.a))/\True)/\(True/\A ((U (g.m-g_1)-U (1:Nat)).toNat=g.m-g')/\∀ i:Nat,i<g.m-g'->(((((True/\A (K=K)/\A ((g.s ((U (1:Nat)).toNat+i+g_1)).p.x=(g.s (i+g')).p.x))/\A (K=K)/\A ((g.s ((U (1:Nat)).toNat+i+g_1)).p.y=(g.s (i+g')).p.y))/\A (K=K)/\A ((g.s ((U (1:Nat)).toNat+i+g_1)).q.x=(g.s (i+g')).q.x))/\A (K=K)/\A ((g.s ((U (1:Nat)).toNat+i+g_1)).q.y=(g.s (i+g')).q.y))/\A (K=K)/\A ((g.s ((U (1:Nat)).toNat+i+g_1)).o=(g.s (i+g')).o))/\A (K=K)/\A ((g.s ((U (1:Nat)).toNat+i+g_1)).size=(g.s (i+g')).size))/\True)/\A ((skInv g).meas g'<(skInv g).meas g_1)) (True/\True/\True/\True/\A ((0:Int)<=(0:Int)/\(0:Int)<(↑(g.m-g_1):Int))/\True/\True/\True/\True/\True/\True/\A ((0:Int)<=(0:Int)/\(0:Int)<(↑(g.m-g_1):Int))/\True/\True/\A ((-9223372036854775808:Int)<=(g.s (J (0:Int)+g_1)).o+(g.s (J (0:Int)+g_1)).size/\(g.s (J (0:Int)+g_1)).o+(g.s (J (0:Int)+g_1)).size<=(9223372036854775807:Int))/\True/\True/\True/\True/\Sx.Br (decide ((g.s (J (0:Int)+g_1)).o+(g.s (J (0:Int)+g_1)).size<g.a)) (True/\True/\True/\True/\True/\A ((0:Int)<=U (1:Nat)/\U (1:Nat)<=U (g.m-g_1)/\U (g.m-g_1)<=U (g.m-g_1)/\U (g.m-g_1)<=(↑(g.m-g_1):Int))/\True/\True/\True/\∃ (g':Nat),A ((skInv g).pre g')/\True/\((A ((0:Nat)=(0:Nat))/\(A (K=K)/\A (g.a=g.a))/\True)/\(True/\A ((U (g.m-g_1)-U (1:Nat)).toNat=g.m-g')/\∀ i:Nat,i<g.m-g'->(((((True/\A (K=K)/\A ((g.s ((U (1:Nat)).toNat+i+g_1)).p.x=(g.s (i+g')).p.x))/\A (K=K)/\A ((g.s ((U (1:Nat)).toNat+i+g_1)).p.y=(g.s (i+g')).p.y))/\A (K=K)/\A ((g.s ((U (1:Nat)).toNat+i+g_1)).q.x=(g.s (i+g')).q.x))/\A (K=K)/\A ((g.s ((U (1:Nat)).toNat+i+g_1)).q.y=(g.s (i+g')).q.y))/\A (K=K)/\A ((g.s ((U (1:Nat)).toNat+i+g_1)).o=(g.s (i+g')).o))/\A (K=K)/\A ((g.s ((U (1:Nat)).toNat+i+g_1)).size=(g.s (i+g')).size))/\True)/\A ((skInv g).meas g'<(skInv g).meas g_1)) (True/\True/\(True/\True)/\(True/\A (g.m-g_1=g.m-g.k)/\∀ i:Nat,i<g.m-g.k->(((((True/\A (K=K)/\A ((g.s (i+g_1)).p.x=(g.s (i+g.k)).p.x))/\A (K=K)/\A ((g.s (i+g_1)).p.y=(g.s (i+g.k)).p.y))/\A (K=K)/\A ((g.s (i+g_1)).q.x=(g.s (i+g.k)).q.x))/\A (K=K)/\A ((g.s (i+g_1)).q.y=(g.s (i+g.k)).q.y))/\A (K=K)/\A ((g.s (i+g_1)).o=(g.s (i+g.k)).o))/\A (K=K)/\A ((g.s (i+g_1)).size=(g.s (i+g.k)).size))/\True))) (True/\True/\True/\(True/\True)/\(True/\A (g.m-g_1=g.m-g.k)/\∀ i:Nat,i<g.m-g.k->(((((True/\A (K=K)/\A ((g.s (i+g_1)).p.x=(g.s (i+g.k)).p.x))/\A (K=K)/\A ((g.s (i+g_1)).p.y=(g.s (i+g.k)).p.y))/\A (K=K)/\A ((g.s (i+g_1)).q.x=(g.s (i+g.k)).q.x))/\A (K=K)/\A ((g.s (i+g_1)).q.y=(g.s (i+g.k)).q.y))/\A (K=K)/\A ((g.s (i+g_1)).o=(g.s (i+g.k)).o))/\A (K=K)/\A ((g.s (i+g_1)).size=(g.s (i+g.k)).size))/\True)) (by kernel_rfl) ?_
 simp only [ask_iff,br_iff,eq_self,true_and,and_true,implies_true,forall_const,decide_eq_true_eq,decide_eq_false_iff_not,ne_eq,Nat.mul_one,Nat.add_zero,Nat.zero_add]
 have z0:(Int.ofNat 1).toNat=1:=rfl
 obtain ⟨⟨hm,hs⟩,ha⟩:=hg
 refine ⟨⟨0,⟨Nat.zero_le _,by rw [Nat.zero_add]; rfl⟩,rfl,fun i _=>six rfl⟩,fun i hi=>?_⟩
 obtain ⟨hi1,hi2⟩:i<=g.m/\sk g.s g.a g.m=i+sk (fun j=>g.s (j+i)) g.a (g.m-i):=hi
 have z1:Int.toNat 0+i=i:=by omega
 rw [z0,z1]
 refine ⟨fun h=>?_,fun h=>?_⟩
 ·have hm1:g.m-i=(g.m-(i+1))+1:=by omega
  rw [hm1] at hi2
  have hi3:sk g.s g.a g.m=i+if (g.s (0+i)).size=0\/(g.s (0+i)).o+(g.s (0+i)).size<g.a then sk (fun j=>g.s (j+1+i)) g.a (g.m-(i+1))+1 else 0:=hi2
  rw [Nat.zero_add] at hi3
  have hb:=hs i (by omega)
  have e1:(fun j=>g.s (j+1+i))=fun j=>g.s (j+(i+1)):=funext fun j=>congrArg g.s (by omega)
  have go:((g.s i).size=0\/(g.s i).o+(g.s i).size<g.a)->∃ g':Nat,(skInv g).pre g'/\((Int.ofNat (g.m-i)-Int.ofNat 1).toNat=g.m-g'/\∀ (j:Nat),j<g.m-g'->(((((g.s (1+j+i)).p.x=(g.s (j+g')).p.x/\(g.s (1+j+i)).p.y=(g.s (j+g')).p.y)/\(g.s (1+j+i)).q.x=(g.s (j+g')).q.x)/\(g.s (1+j+i)).q.y=(g.s (j+g')).q.y)/\(g.s (1+j+i)).o=(g.s (j+g')).o)/\(g.s (1+j+i)).size=(g.s (j+g')).size)/\(skInv g).meas g'<(skInv g).meas i:=fun hc=>by
   rw [if_pos hc,e1] at hi3
   refine ⟨i+1,⟨by omega,by rw [hi3]; omega⟩,⟨?_,fun j _=>six (congrArg g.s (by omega))⟩,?_⟩
   ·show (((g.m-i:Nat):Int)-(1:Int)).toNat=_
    omega
   ·show g.m-(i+1)<g.m-i
    omega
  have b1:(0<=Int.ofNat 1/\Int.ofNat 1<=Int.ofNat (g.m-i)/\Int.ofNat (g.m-i)<=Int.ofNat (g.m-i)/\Int.ofNat (g.m-i)<=↑(g.m-i)):=by
   refine ⟨Int.natCast_nonneg 1,?_,Int.le_refl _,Int.le_refl _⟩
   show (1:Int)<=((g.m-i:Nat):Int)
   omega
  refine ⟨by omega,fun hc=>⟨b1,go (.inl hc)⟩,fun hc=>⟨by omega,by omega,by omega,fun hd=>⟨b1,go (.inr hd)⟩,fun hd=>?_⟩⟩
  rw [if_neg (fun h=>h.elim hc hd)] at hi3
  have ek:g.k=i:=by unfold SkG.k; rw [hi3]; rfl
  exact ⟨by rw [ek],fun j _=>six (by rw [ek])⟩
 ·have hm1:g.m-i=0:=by omega
  rw [hm1] at hi2
  have ek:g.k=i:=by unfold SkG.k; rw [hi2]; rfl
  exact ⟨by omega,fun j _=>six (by rw [ek])⟩
structure TkG where
 m:Nat
 s:Nat->Sd
 a:Int
 b:Int
def tkD:List SV->List SO->Option TkG
 | [_,.int _ a,.int _ b],[.cells _ c _]=>some ⟨slLen (c 0),sdsD (c 0),a,b⟩
 | _,_=>none
def tk (s:Nat->Sd) (a b:Int):Nat->List Pt->List Pt
 | 0,L=>L
 | m+1,L=>if (0<(s 0).size/\(s 0).o<=b)/\b<=(s 0).o+(s 0).size then L++[ptAt (s 0) b] else tk (fun j=>s (j+1)) a b m (if a<(s 0).o+(s 0).size/\(s 0).o+(s 0).size<b then L++[(s 0).q] else L)
def TkG.k (g:TkG):Nat:=sk g.s g.a g.m
def TkG.L (g:TkG):List Pt:=tk (fun j=>g.s (j+g.k)) g.a g.b (g.m-g.k) [ptAt (g.s g.k) g.a]
def TkG.ok (g:TkG):Prop:=(sides_in g.m g.s/\(0<=g.a/\g.a<=549755813888)/\0<=g.b/\g.b<=549755813888)/\∃ j,j<g.m/\0<(g.s j).size/\g.a<=(g.s j).o+(g.s j).size
def ptI (L:List Pt) (i:Nat):Pt:=L.getD i ⟨0,0⟩
def ptsS (L:List Pt):SV:= .sl L.length 2 (fun i=>lst (ptL (ptI L i)))
theorem app_xy (L:List Pt) (p:Pt) (i:Nat) (h:i<(L++[p]).length):(bif decide (i<L.length) then (ptI L i).x else p.x)=(ptI (L++[p]) i).x/\(bif decide (i<L.length) then (ptI L i).y else p.y)=(ptI (L++[p]) i).y:=by
 unfold ptI
 by_cases hi:i<L.length
 ·rw [decide_eq_true hi]
  simp only [List.getD_eq_getElem?_getD,List.getElem?_append_left hi,cond_true,and_self]
 ·have e:i=L.length:=by simp at h; omega
  subst e
  simp
theorem sk_spec (a:Int):∀ (m:Nat) (s:Nat->Sd),sk s a m<=m/\(∀ j,j<sk s a m->(s j).size=0\/(s j).o+(s j).size<a)/\(sk s a m<m->¬ ((s (sk s a m)).size=0\/(s (sk s a m)).o+(s (sk s a m)).size<a))
 | 0,s=>⟨Nat.le_refl _,fun j h=>absurd h (Nat.not_lt_zero j),fun h=>absurd h (Nat.lt_irrefl 0)⟩
 | m+1,s=>by
  have ih:=sk_spec a m (fun j=>s (j+1))
  by_cases hc:(s 0).size=0\/(s 0).o+(s 0).size<a
  ·have e:sk s a (m+1)=sk (fun j=>s (j+1)) a m+1:=if_pos hc
   rw [e]
   refine ⟨by omega,fun j hj=>?_,fun h=>ih.2.2 (by omega)⟩
   cases j with
   | zero=>exact hc
   | succ j=>exact ih.2.1 j (by omega)
  ·have e:sk s a (m+1)=0:=if_neg hc
   rw [e]
   exact ⟨Nat.zero_le _,fun j h=>absurd h (Nat.not_lt_zero j),fun _=>hc⟩
theorem sk_lt {a:Int}{m:Nat}{s:Nat->Sd}(h:∃ j,j<m/\0<(s j).size/\a<=(s j).o+(s j).size):sk s a m<m:=by
 obtain ⟨j,h1,h2,h3⟩:=h
 rcases Nat.lt_or_ge j (sk s a m) with hj | hj
 ·have:=(sk_spec a m s).2.1 j hj
  omega
 ·omega
def tkI (g:TkG):Inv:=⟨Nat×List Pt,fun h=>(h.1<=g.m-g.k/\h.2.length<=h.1+1)/\g.L=tk (fun j=>g.s (j+h.1+g.k)) g.a g.b (g.m-g.k-h.1) h.2,
 fun h=>⟨[(0,.own 0 0),(1,.int .i64 g.a),(2,.int .i64 g.b),(7,.osl 1 0),(26,sdsS (g.m-g.k) (fun j=>g.s (j+g.k))),(27,.int .i64 ((g.m-g.k:Nat):Int)),(28,.int .i64 h.1)],
  [.cells 1 (lst [sdsS (g.m-g.k) (fun j=>g.s (j+g.k))]) 47,.row 0 h.2.length 2 (fun i=>lst (ptL (ptI h.2 i))) 28]⟩,fun h=>g.m-h.1⟩
def spTake:FSpec:=mkSpecM 12 [.arg 0] tkD (fun g=>[.own 0 0,.int .i64 g.a,.int .i64 g.b]) (fun g=>[.cells 1 (lst [sdsS g.m g.s]) 47]) TkG.ok
 (fun g=>ptsS g.L) (fun g=>[.cells 1 (lst [sdsS (g.m-g.k) (fun j=>g.s (j+g.k))]) 47])
theorem po_ok {S:Sd}{x:Int}(h:(small 32767 S.p/\small 32767 S.q)/\(0<=S.o/\S.o<=549755813888)/\0<=S.size/\S.size<=549755813888) (hx:0<=x/\x<=549755813888) (h1:1<=S.size):PoG.ok ⟨S,x⟩:=
 ⟨h.1,⟨h.2.1.1,Int.le_trans h.2.1.2 (by decide)⟩,⟨hx.1,Int.le_trans hx.2 (by decide)⟩,h1,Int.le_trans h.2.2.2 (by decide)⟩
theorem ok_take:SpecOK Tryz.prog spTake:=by
 refine spec_soundM (specs:=[spSeek,spPoint]) (all_ok (⟨ok_seek,ok_point,trivial⟩)) (eqs:=[]) (fun _ _ h=>(List.not_mem_nil h).elim) Aff.mixed Tryz.func12 rfl (by kernel_rfl) (fun _ _=>by kernel_rfl) (fun g=>(⟨[(4,.inv (tkI g))],[]⟩:Ann)) false (fun g=>Nat.le_of_ble_eq_true (by kernel_rfl)) ?_
 rintro g hg
 refine vc_of (B:=let U:=Int.toNat;let J:=IntKind.i64;let K:=Sx.Br;let A:=Sx.Ask;True/\True/\True/\((True/\(A ((0:Nat)=(0:Nat))/\(A (J=J)/\A (g.a=g.a))/\True)/\(True/\A (g.m=g.m)/\∀ i:Nat,i<g.m->(((((True/\A (J=J)/\A ((g.s i).p.x=(g.s i).p.x))/\A (J=J)/\A ((g.s i).p.y=(g.s i).p.y))/\A (J=J)/\A ((g.s i).q.x=(g.s i).q.x))/\A (J=J)/\A ((g.s i).q.y=(g.s i).q.y))/\A (J=J)/\A ((g.s i).o=(g.s i).o))/\A (J=J)/\A ((g.s i).size=(g.s i).size))/\True)/\A (SkG.mk g.m g.s g.a).ok)/\True/\True/\True/\True/\A ((0:Int)<=(0:Int)/\(0:Int)<(↑(g.m-(SkG.mk g.m g.s g.a).k):Int))/\True/\True/\((((((((True/\A (J=J)/\A ((g.s (U (0:Int)+(SkG.mk g.m g.s g.a).k)).p.x=(g.s (U (0:Int)+(SkG.mk g.m g.s g.a).k)).p.x))/\A (J=J)/\A ((g.s (U (0:Int)+(SkG.mk g.m g.s g.a).k)).p.y=(g.s (U (0:Int)+(SkG.mk g.m g.s g.a).k)).p.y))/\A (J=J)/\A ((g.s (U (0:Int)+(SkG.mk g.m g.s g.a).k)).q.x=(g.s (U (0:Int)+(SkG.mk g.m g.s g.a).k)).q.x))/\A (J=J)/\A ((g.s (U (0:Int)+(SkG.mk g.m g.s g.a).k)).q.y=(g.s (U (0:Int)+(SkG.mk g.m g.s g.a).k)).q.y))/\A (J=J)/\A ((g.s (U (0:Int)+(SkG.mk g.m g.s g.a).k)).o=(g.s (U (0:Int)+(SkG.mk g.m g.s g.a).k)).o))/\A (J=J)/\A ((g.s (U (0:Int)+(SkG.mk g.m g.s g.a).k)).size=(g.s (U (0:Int)+(SkG.mk g.m g.s g.a).k)).size))/\(A (J=J)/\A (g.a=g.a))/\True)/\A (Go.Proofs.YtmhofgchidojoaaGreat.Dsh.PoG.mk (g.s (U (0:Int)+(SkG.mk g.m g.s g.a).k)) g.a).ok)/\True/\True/\True/\True/\True/\True/\True/\True/\(∃ (g_1:Nat×List Go.Proofs.YtmhofgchidojoaaGreat.Con.Pt),A ((tkI g).pre g_1)/\True/\(A ((0:Nat)=(0:Nat))/\(A (J=J)/\A (g.a=g.a))/\(A (J=J)/\A (g.b=g.b))/\True/\(A (g.m-(SkG.mk g.m g.s g.a).k=g.m-g.k)/\∀ i:Nat,i<g.m-g.k->(((((True/\A (J=J)/\A ((g.s (i+(SkG.mk g.m g.s g.a).k)).p.x=(g.s (i+g.k)).p.x))/\A (J=J)/\A ((g.s (i+(SkG.mk g.m g.s g.a).k)).p.y=(g.s (i+g.k)).p.y))/\A (J=J)/\A ((g.s (i+(SkG.mk g.m g.s g.a).k)).q.x=(g.s (i+g.k)).q.x))/\A (J=J)/\A ((g.s (i+(SkG.mk g.m g.s g.a).k)).q.y=(g.s (i+g.k)).q.y))/\A (J=J)/\A ((g.s (i+(SkG.mk g.m g.s g.a).k)).o=(g.s (i+g.k)).o))/\A (J=J)/\A ((g.s (i+(SkG.mk g.m g.s g.a).k)).size=(g.s (i+g.k)).size))/\(A (J=J)/\A ((↑(g.m-(SkG.mk g.m g.s g.a).k):Int)=(↑(g.m-g.k):Int)))/\(A (J=J)/\A ((0:Int)=(↑g_1.fst:Int)))/\True)/\(True/\A (g.m-(SkG.mk g.m g.s g.a).k=g.m-g.k)/\∀ i:Nat,i<g.m-g.k->(((((True/\A (J=J)/\A ((g.s (i+(SkG.mk g.m g.s g.a).k)).p.x=(g.s (i+g.k)).p.x))/\A (J=J)/\A ((g.s (i+(SkG.mk g.m g.s g.a).k)).p.y=(g.s (i+g.k)).p.y))/\A (J=J)/\A ((g.s (i+(SkG.mk g.m g.s g.a).k)).q.x=(g.s (i+g.k)).q.x))/\A (J=J)/\A ((g.s (i+(SkG.mk g.m g.s g.a).k)).q.y=(g.s (i+g.k)).q.y))/\A (J=J)/\A ((g.s (i+(SkG.mk g.m g.s g.a).k)).o=(g.s (i+g.k)).o))/\A (J=J)/\A ((g.s (i+(SkG.mk g.m g.s g.a).k)).size=(g.s (i+g.k)).size))/\(A ((1:Nat)=g_1.snd.length)/\∀ i:Nat,i<g_1.snd.length->(True/\A (J=J)/\A ((g.s (U (0:Int)+(SkG.mk g.m g.s g.a).k)).p.x+nr (((g.s (U (0:Int)+(SkG.mk g.m g.s g.a).k)).q.x-(g.s (U (0:Int)+(SkG.mk g.m g.s g.a).k)).p.x)*(g.a-(g.s (U (0:Int)+(SkG.mk g.m g.s g.a).k)).o)) (g.s (U (0:Int)+(SkG.mk g.m g.s g.a).k)).size=(ptI g_1.snd i).x))/\A (J=J)/\A ((g.s (U (0:Int)+(SkG.mk g.m g.s g.a).k)).p.y+nr (((g.s (U (0:Int)+(SkG.mk g.m g.s g.a).k)).q.y-(g.s (U (0:Int)+(SkG.mk g.m g.s g.a).k)).p.y)*(g.a-(g.s (U (0:Int)+(SkG.mk g.m g.s g.a).k)).o)) (g.s (U (0:Int)+(SkG.mk g.m g.s g.a).k)).size=(ptI g_1.snd i).y))/\True)/\∀ (g_1:Nat×List Go.Proofs.YtmhofgchidojoaaGreat.Con.Pt),(tkI g).pre g_1->True/\K (decide ((↑g_1.fst:Int)<(↑(g.m-g.k):Int))) (A ((0:Int)<=(↑g_1.fst:Int)/\(↑g_1.fst:Int)<(↑(g.m-g.k):Int))/\True/\True/\True/\True/\True/\True/\True/\A ((-9223372036854775808:Int)<=(g.s ((↑g_1.fst:Int).toNat+g.k)).o+(g.s ((↑g_1.fst:Int).toNat+g.k)).size/\(g.s ((↑g_1.fst:Int).toNat+g.k)).o+(g.s ((↑g_1.fst:Int).toNat+g.k)).size<=(9223372036854775807:Int))/\True/\True/\True/\True/\True/\K (decide ((0:Int)<(g.s ((↑g_1.fst:Int).toNat+g.k)).size)) (True/\True/\True/\True/\True/\True/\K (decide ((g.s ((↑g_1.fst:Int).toNat+g.k)).o<=g.b)) (True/\True/\True/\True/\K (decide (g.b<=(g.s ((↑g_1.fst:Int).toNat+g.k)).o+(g.s ((↑g_1.fst:Int).toNat+g.k)).size)) (True/\True/\True/\((((((((True/\A (J=J)/\A ((g.s ((↑g_1.fst:Int).toNat+g.k)).p.x=(g.s ((↑g_1.fst:Int).toNat+g.k)).p.x))/\A (J=J)/\A ((g.s ((↑g_1.fst:Int).toNat+g.k)).p.y=(g.s ((↑g_1.fst:Int).toNat+g.k)).p.y))/\A (J=J)/\A ((g.s ((↑g_1.fst:Int).toNat+g.k)).q.x=(g.s ((↑g_1.fst:Int).toNat+g.k)).q.x))/\A (J=J)/\A ((g.s ((↑g_1.fst:Int).toNat+g.k)).q.y=(g.s ((↑g_1.fst:Int).toNat+g.k)).q.y))/\A (J=J)/\A ((g.s ((↑g_1.fst:Int).toNat+g.k)).o=(g.s ((↑g_1.fst:Int).toNat+g.k)).o))/\A (J=J)/\A ((g.s ((↑g_1.fst:Int).toNat+g.k)).size=(g.s ((↑g_1.fst:Int).toNat+g.k)).size))/\(A (J=J)/\A (g.b=g.b))/\True)/\A (Go.Proofs.YtmhofgchidojoaaGreat.Dsh.PoG.mk (g.s ((↑g_1.fst:Int).toNat+g.k)) g.b).ok)/\True/\A (g_1.snd.length+(1:Nat)<=(9223372036854775807:Nat)/\(g_1.snd.length+(1:Nat))*(16:Nat)<=(140737488355328:Nat))/\True/\True/\True/\((A (g_1.snd.length+(1:Nat)=g.L.length)/\∀ i:Nat,i<g.L.length->(True/\A (J=J)/\A ((bif decide (i<g_1.snd.length) then (ptI g_1.snd i).x else (g.s ((↑g_1.fst:Int).toNat+g.k)).p.x+nr (((g.s ((↑g_1.fst:Int).toNat+g.k)).q.x-(g.s ((↑g_1.fst:Int).toNat+g.k)).p.x)*(g.b-(g.s ((↑g_1.fst:Int).toNat+g.k)).o)) (g.s ((↑g_1.fst:Int).toNat+g.k)).size)=(ptI g.L i).x))/\A (J=J)/\A ((bif decide (i<g_1.snd.length) then (ptI g_1.snd i).y else (g.s ((↑g_1.fst:Int).toNat+g.k)).p.y+nr (((g.s ((↑g_1.fst:Int).toNat+g.k)).q.y-(g.s ((↑g_1.fst:Int).toNat+g.k)).p.y)*(g.b-(g.s ((↑g_1.fst:Int).toNat+g.k)).o)) (g.s ((↑g_1.fst:Int).toNat+g.k)).size)=(ptI g.L i).y))/\True)/\(True/\A (g.m-g.k=g.m-g.k)/\∀ i:Nat,i<g.m-g.k->(((((True/\A (J=J)/\A ((g.s (i+g.k)).p.x=(g.s (i+g.k)).p.x))/\A (J=J)/\A ((g.s (i+g.k)).p.y=(g.s (i+g.k)).p.y))/\A (J=J)/\A ((g.s (i+g.k)).q.x=(g.s (i+g.k)).q.x))/\A (J=J)/\A ((g.s (i+g.k)).q.y=(g.s (i+g.k)).q.y))/\A (J=J)/\A ((g.s (i+g.k)).o=(g.s (i+g.k)).o))/\A (J=J)/\A ((g.s (i+g.k)).size=(g.s (i+g.k)).size))/\True) (True/\True/\True/\True/\K (decide (g.a<(g.s ((↑g_1.fst:Int).toNat+g.k)).o+(g.s ((↑g_1.fst:Int).toNat+g.k)).size)) (True/\True/\True/\True/\K (decide ((g.s ((↑g_1.fst:Int).toNat+g.k)).o+(g.s ((↑g_1.fst:Int).toNat+g.k)).size<g.b)) (True/\True/\True/\True/\A (g_1.snd.length+(1:Nat)<=(9223372036854775807:Nat)/\(g_1.snd.length+(1:Nat))*(16:Nat)<=(140737488355328:Nat))/\True/\A ((-9223372036854775808:Int)<=(↑g_1.fst:Int)+(1:Int)/\(↑g_1.fst:Int)+(1:Int)<=(9223372036854775807:Int))/\True/\∃ (g':Nat×List Go.Proofs.YtmhofgchidojoaaGreat.Con.Pt),A ((tkI g).pre g')/\True/\((A ((0:Nat)=(0:Nat))/\(A (J=J)/\A (g.a=g.a))/\(A (J=J)/\A (g.b=g.b))/\True/\(A (g.m-g.k=g.m-g.k)/\∀ i:Nat,i<g.m-g.k->(((((True/\A (J=J)/\A ((g.s (i+g.k)).p.x=(g.s (i+g.k)).p.x))/\A (J=J)/\A ((g.s (i+g.k)).p.y=(g.s (i+g.k)).p.y))/\A (J=J)/\A ((g.s (i+g.k)).q.x=(g.s (i+g.k)).q.x))/\A (J=J)/\A ((g.s (i+g.k)).q.y=(g.s (i+g.k)).q.y))/\A (J=J)/\A ((g.s (i+g.k)).o=(g.s (i+g.k)).o))/\A (J=J)/\A ((g.s (i+g.k)).size=(g.s (i+g.k)).size))/\(A (J=J)/\A ((↑(g.m-g.k):Int)=(↑(g.m-g.k):Int)))/\(A (J=J)/\A ((↑g_1.fst:Int)+(1:Int)=(↑g'.fst:Int)))/\True)/\(True/\A (g.m-g.k=g.m-g.k)/\∀ i:Nat,i<g.m-g.k->(((((True/\A (J=J)/\A ((g.s (i+g.k)).p.x=(g.s (i+g.k)).p.x))/\A (J=J)/\A ((g.s (i+g.k)).p.y=(g.s (i+g.k)).p.y))/\A (J=J)/\A ((g.s (i+g.k)).q.x=(g.s (i+g.k)).q.x))/\A (J=J)/\A ((g.s (i+g.k)).q.y=(g.s (i+g.k)).q.y))/\A (J=J)/\A ((g.s (i+g.k)).o=(g.s (i+g.k)).o))/\A (J=J)/\A ((g.s (i+g.k)).size=(g.s (i+g.k)).size))/\(A (g_1.snd.length+(1:Nat)=g'.snd.length)/\∀ i:Nat,i<g'.snd.length->(True/\A (J=J)/\A ((bif decide (i<g_1.snd.length) then (ptI g_1.snd i).x else (g.s ((↑g_1.fst:Int).toNat+g.k)).q.x)=(ptI g'.snd i).x))/\A (J=J)/\A ((bif decide (i<g_1.snd.length) then (ptI g_1.snd i).y else (g.s ((↑g_1.fst:Int).toNat+g.k)).q.y)=(ptI g'.snd i).y))/\True)/\A ((tkI g).meas g'<(tkI g).meas g_1)) (A ((-9223372036854775808:Int)<=(↑g_1.fst:Int)+(1:Int)/\(↑g_1.fst:Int)+(1:Int)<=(9223372036854775807:Int))/\True/\∃ (g':Nat×List Go.Proofs.YtmhofgchidojoaaGreat.Con.Pt),A ((tkI g).pre g')/\True/\((A ((0:Nat)=(0:Nat))/\(A (J=J)/\A (g.a=g.a))/\(A (J=J)/\A (g.b=g.b))/\True/\(A (g.m-g.k=g.m-g.k)/\∀ i:Nat,i<g.m-g.k->(((((True/\A (J=J)/\A ((g.s (i+g.k)).p.x=(g.s (i+g.k)).p.x))/\A (J=J)/\A ((g.s (i+g.k)).p.y=(g.s (i+g.k)).p.y))/\A (J=J)/\A ((g.s (i+g.k)).q.x=(g.s (i+g.k)).q.x))/\A (J=J)/\A ((g.s (i+g.k)).q.y=(g.s (i+g.k)).q.y))/\A (J=J)/\A ((g.s (i+g.k)).o=(g.s (i+g.k)).o))/\A (J=J)/\A ((g.s (i+g.k)).size=(g.s (i+g.k)).size))/\(A (J=J)/\A ((↑(g.m-g.k):Int)=(↑(g.m-g.k):Int)))/\(A (J=J)/\A ((↑g_1.fst:Int)+(1:Int)=(↑g'.fst:Int)))/\True)/\(True/\A (g.m-g.k=g.m-g.k)/\∀ i:Nat,i<g.m-g.k->(((((True/\A (J=J)/\A ((g.s (i+g.k)).p.x=(g.s (i+g.k)).p.x))/\A (J=J)/\A ((g.s (i+g.k)).p.y=(g.s (i+g.k)).p.y))/\A (J=J)/\A ((g.s (i+g.k)).q.x=(g.s (i+g.k)).q.x))/\A (J=J)/\A ((g.s (i+g.k)).q.y=(g.s (i+g.k)).q.y))/\A (J=J)/\A ((g.s (i+g.k)).o=(g.s (i+g.k)).o))/\A (J=J)/\A ((g.s (i+g.k)).size=(g.s (i+g.k)).size))/\(A (g_1.snd.length=g'.snd.length)/\∀ i:Nat,i<g'.snd.length->(True/\A (J=J)/\A ((ptI g_1.snd i).x=(ptI g'.snd i).x))/\A (J=J)/\A ((ptI g_1.snd i).y=(ptI g'.snd i).y))/\True)/\A ((tkI g).meas g'<(tkI g).meas g_1))) (True/\A ((-9223372036854775808:Int)<=(↑g_1.fst:Int)+(1:Int)/\(↑g_1.fst:Int)+(1:Int)<=(9223372036854775807:Int))/\True/\∃ (g':Nat×List Go.Proofs.YtmhofgchidojoaaGreat.Con.Pt),A ((tkI g).pre g')/\True/\((A ((0:Nat)=(0:Nat))/\(A (J=J)/\A (g.a=g.a))/\(A (J=J)/\A (g.b=g.b))/\True/\(A (g.m-g.k=g.m-g.k)/\∀ i:Nat,i<g.m-g.k->(((((True/\A (J=J)/\A ((g.s (i+g.k)).p.x=(g.s (i+g.k)).p.x))/\A (J=J)/\A ((g.s (i+g.k)).p.y=(g.s (i+g.k)).p.y))/\A (J=J)/\A ((g.s (i+g.k)).q.x=(g.s (i+g.k)).q.x))/\A (J=J)/\A ((g.s (i+g.k)).q.y=(g.s (i+g.k)).q.y))/\A (J=J)/\A ((g.s (i+g.k)).o=(g.s (i+g.k)).o))/\A (J=J)/\A ((g.s (i+g.k)).size=(g.s (i+g.k)).size))/\(A (J=J)/\A ((↑(g.m-g.k):Int)=(↑(g.m-g.k):Int)))/\(A (J=J)/\A ((↑g_1.fst:Int)+(1:Int)=(↑g'.fst:Int)))/\True)/\(True/\A (g.m-g.k=g.m-g.k)/\∀ i:Nat,i<g.m-g.k->(((((True/\A (J=J)/\A ((g.s (i+g.k)).p.x=(g.s (i+g.k)).p.x))/\A (J=J)/\A ((g.s (i+g.k)).p.y=(g.s (i+g.k)).p.y))/\A (J=J)/\A ((g.s (i+g.k)).q.x=(g.s (i+g.k)).q.x))/\A (J=J)/\A ((g.s (i+g.k)).q.y=(g.s (i+g.k)).q.y))/\A (J=J)/\A ((g.s (i+g.k)).o=(g.s (i+g.k)).o))/\A (J=J)/\A ((g.s (i+g.k)).size=(g.s (i+g.k)).size))/\(A (g_1.snd.length=g'.snd.length)/\∀ i:Nat,i<g'.snd.length->(True/\A (J=J)/\A ((ptI g_1.snd i).x=(ptI g'.snd i).x))/\A (J=J)/\A ((ptI g_1.snd i).y=(ptI g'.snd i).y))/\True)/\A ((tkI g).meas g'<(tkI g).meas g_1)))) (True/\True/\True/\True/\True/\K (decide (g.a<(g.s ((↑g_1.fst:Int).toNat+g.k)).o+(g.s ((↑g_1.fst:Int).toNat+g.k)).size)) (True/\True/\True/\True/\K (decide ((g.s ((↑g_1.fst:Int).toNat+g.k)).o+(g.s ((↑g_1.fst:Int).toNat+g.k)).size<g.b)) (True/\True/\True/\True/\A (g_1.snd.length+(1:Nat)<=(9223372036854775807:Nat)/\(g_1.snd.length+(1:Nat))*(16:Nat)<=(140737488355328:Nat))/\True/\A ((-9223372036854775808:Int)<=(↑g_1.fst:Int)+(1:Int)/\(↑g_1.fst:Int)+(1:Int)<=(9223372036854775807:Int))/\True/\∃ (g':Nat×List Go.Proofs.YtmhofgchidojoaaGreat.Con.Pt),A ((tkI g).pre g')/\True/\((A ((0:Nat)=(0:Nat))/\(A (J=J)/\A (g.a=g.a))/\(A (J=J)/\A (g.b=g.b))/\True/\(A (g.m-g.k=g.m-g.k)/\∀ i:Nat,i<g.m-g.k->(((((True/\A (J=J)/\A ((g.s (i+g.k)).p.x=(g.s (i+g.k)).p.x))/\A (J=J)/\A ((g.s (i+g.k)).p.y=(g.s (i+g.k)).p.y))/\A (J=J)/\A ((g.s (i+g.k)).q.x=(g.s (i+g.k)).q.x))/\A (J=J)/\A ((g.s (i+g.k)).q.y=(g.s (i+g.k)).q.y))/\A (J=J)/\A ((g.s (i+g.k)).o=(g.s (i+g.k)).o))/\A (J=J)/\A ((g.s (i+g.k)).size=(g.s (i+g.k)).size))/\(A (J=J)/\A ((↑(g.m-g.k):Int)=(↑(g.m-g.k):Int)))/\(A (J=J)/\A ((↑g_1.fst:Int)+(1:Int)=(↑g'.fst:Int)))/\True)/\(True/\A (g.m-g.k=g.m-g.k)/\∀ i:Nat,i<g.m-g.k->(((((True/\A (J=J)/\A ((g.s (i+g.k)).p.x=(g.s (i+g.k)).p.x))/\A (J=J)/\A ((g.s (i+g.k)).p.y=(g.s (i+g.k)).p.y))/\A (J=J)/\A ((g.s (i+g.k)).q.x=(g.s (i+g.k)).q.x))/\A (J=J)/\A ((g.s (i+g.k)).q.y=(g.s (i+g.k)).q.y))/\A (J=J)/\A ((g.s (i+g.k)).o=(g.s (i+g.k)).o))/\A (J=J)/\A ((g.s (i+g.k)).size=(g.s (i+g.k)).size))/\(A (g_1.snd.length+(1:Nat)=g'.snd.length)/\∀ i:Nat,i<g'.snd.length->(True/\A (J=J)/\A ((bif decide (i<g_1.snd.length) then (ptI g_1.snd i).x else (g.s ((↑g_1.fst:Int).toNat+g.k)).q.x)=(ptI g'.snd i).x))/\A (J=J)/\A ((bif decide (i<g_1.snd.length) then (ptI g_1.snd i).y else (g.s ((↑g_1.fst:Int).toNat+g.k)).q.y)=(ptI g'.snd i).y))/\True)/\A ((tkI g).meas g'<(tkI g).meas g_1)) (A ((-9223372036854775808:Int)<=(↑g_1.fst:Int)+(1:Int)/\(↑g_1.fst:Int)+(1:Int)<=(9223372036854775807:Int))/\True/\∃ (g':Nat×List Go.Proofs.YtmhofgchidojoaaGreat.Con.Pt),A ((tkI g).pre g')/\True/\((A ((0:Nat)=(0:Nat))/\(A (J=J)/\A (g.a=g.a))/\(A (J=J)/\A (g.b=g.b))/\True/\(A (g.m-g.k=g.m-g.k)/\∀ i:Nat,i<g.m-g.k->(((((True/\A (J=J)/\A ((g.s (i+g.k)).p.x=(g.s (i+g.k)).p.x))/\A (J=J)/\A ((g.s (i+g.k)).p.y=(g.s (i+g.k)).p.y))/\A (J=J)/\A ((g.s (i+g.k)).q.x=(g.s (i+g.k)).q.x))/\A (J=J)/\A ((g.s (i+g.k)).q.y=(g.s (i+g.k)).q.y))/\A (J=J)/\A ((g.s (i+g.k)).o=(g.s (i+g.k)).o))/\A (J=J)/\A ((g.s (i+g.k)).size=(g.s (i+g.k)).size))/\(A (J=J)/\A ((↑(g.m-g.k):Int)=(↑(g.m-g.k):Int)))/\(A (J=J)/\A ((↑g_1.fst:Int)+(1:Int)=(↑g'.fst:Int)))/\True)/\(True/\A (g.m-g.k=g.m-g.k)/\∀ i:Nat,i<g.m-g.k->(((((True/\A (J=J)/\A ((g.s (i+g.k)).p.x=(g.s (i+g.k)).p.x))/\A (J=J)/\A ((g.s (i+g.k)).p.y=(g.s (i+g.k)).p.y))/\A (J=J)/\A ((g.s (i+g.k)).q.x=(g.s (i+g.k)).q.x))/\A (J=J)/\A ((g.s (i+g.k)).q.y=(g.s (i+g.k)).q.y))/\A (J=J)/\A ((g.s (i+g.k)).o=(g.s (i+g.k)).o))/\A (J=J)/\A ((g.s (i+g.k)).size=(g.s (i+g.k)).size))/\(A (g_1.snd.length=g'.snd.length)/\∀ i:Nat,i<g'.snd.length->(True/\A (J=J)/\A ((ptI g_1.snd i).x=(ptI g'.snd i).x))/\A (J=J)/\A ((ptI g_1.snd i).y=(ptI g'.snd i).y))/\True)/\A ((tkI g).meas g'<(tkI g).meas g_1))) (True/\A ((-9223372036854775808:Int)<=(↑g_1.fst:Int)+(1:Int)/\(↑g_1.fst:Int)+(1:Int)<=(9223372036854775807:Int))/\True/\∃ (g':Nat×List Go.Proofs.YtmhofgchidojoaaGreat.Con.Pt),A ((tkI g).pre g')/\True/\((A ((0:Nat)=(0:Nat))/\(A (J=J)/\A (g.a=g.a))/\(A (J=J)/\A (g.b=g.b))/\True/\(A (g.m-g.k=g.m-g.k)/\∀ i:Nat,i<g.m-g.k->(((((True/\A (J=J)/\A ((g.s (i+g.k)).p.x=(g.s (i+g.k)).p.x))/\A (J=J)/\A ((g.s (i+g.k)).p.y=(g.s (i+g.k)).p.y))/\A (J=J)/\A ((g.s (i+g.k)).q.x=(g.s (i+g.k)).q.x))/\A (J=J)/\A ((g.s (i+g.k)).q.y=(g.s (i+g.k)).q.y))/\A (J=J)/\A ((g.s (i+g.k)).o=(g.s (i+g.k)).o))/\A (J=J)/\A ((g.s (i+g.k)).size=(g.s (i+g.k)).size))/\(A (J=J)/\A ((↑(g.m-g.k):Int)=(↑(g.m-g.k):Int)))/\(A (J=J)/\A ((↑g_1.fst:Int)+(1:Int)=(↑g'.fst:Int)))/\True)/\(True/\A (g.m-g.k=g.m-g.k)/\∀ i:Nat,i<g.m-g.k->(((((True/\A (J=J)/\A ((g.s (i+g.k)).p.x=(g.s (i+g.k)).p.x))/\A (J=J)/\A ((g.s (i+g.k)).p.y=(g.s (i+g.k)).p.y))/\A (J=J)/\A ((g.s (i+g.k)).q.x=(g.s (i+g.k)).q.x))/\A (J=J)/\A ((g.s (i+g.k)).q.y=(g.s (i+g.k)).q.y))/\A (J=J)/\A ((g.s (i+g.k)).o=(g.s (i+g.k)).o))/\A (J=J)/\A ((g.s (i+g.k)).size=(g.s (i+g.k)).size))/\(A (g_1.snd.length=g'.snd.length)/\∀ i:Nat,i<g'.snd.length->(True/\A (J=J)/\A ((ptI g_1.snd i).x=(ptI g'.snd i).x))/\A (J=J)/\A ((ptI g_1.snd i).y=(ptI g'.snd i).y))/\True)/\A ((tkI g).meas g'<(tkI g).meas g_1)))) (True/\True/\True/\True/\True/\True/\True/\K (decide (g.a<(g.s ((↑g_1.fst:Int).toNat+g.k)).o+(g.s ((↑g_1.fst:Int).toNat+g.k)).size)) (True/\True/\True/\True/\K (decide ((g.s ((↑g_1.fst:Int).toNat+g.k)).o+(g.s ((↑g_1.fst:Int).toNat+g.k)).size<g.b)) (True/\True/\True/\True/\A (g_1.snd.length+(1:Nat)<=(9223372036854775807:Nat)/\(g_1.snd.length+(1:Nat))*(16:Nat)<=(140737488355328:Nat))/\True/\A ((-9223372036854775808:Int)<=(↑g_1.fst:Int)+(1:Int)/\(↑g_1.fst:Int)+(1:Int)<=(9223372036854775807:Int))/\True/\∃ (g':Nat×List Go.Proofs.YtmhofgchidojoaaGreat.Con.Pt),A ((tkI g).pre g')/\True/\((A ((0:Nat)=(0:Nat))/\(A (J=J)/\A (g.a=g.a))/\(A (J=J)/\A (g.b=g.b))/\True/\(A (g.m-g.k=g.m-g.k)/\∀ i:Nat,i<g.m-g.k->(((((True/\A (J=J)/\A ((g.s (i+g.k)).p.x=(g.s (i+g.k)).p.x))/\A (J=J)/\A ((g.s (i+g.k)).p.y=(g.s (i+g.k)).p.y))/\A (J=J)/\A ((g.s (i+g.k)).q.x=(g.s (i+g.k)).q.x))/\A (J=J)/\A ((g.s (i+g.k)).q.y=(g.s (i+g.k)).q.y))/\A (J=J)/\A ((g.s (i+g.k)).o=(g.s (i+g.k)).o))/\A (J=J)/\A ((g.s (i+g.k)).size=(g.s (i+g.k)).size))/\(A (J=J)/\A ((↑(g.m-g.k):Int)=(↑(g.m-g.k):Int)))/\(A (J=J)/\A ((↑g_1.fst:Int)+(1:Int)=(↑g'.fst:Int)))/\True)/\(True/\A (g.m-g.k=g.m-g.k)/\∀ i:Nat,i<g.m-g.k->(((((True/\A (J=J)/\A ((g.s (i+g.k)).p.x=(g.s (i+g.k)).p.x))/\A (J=J)/\A ((g.s (i+g.k)).p.y=(g.s (i+g.k)).p.y))/\A (J=J)/\A ((g.s (i+g.k)).q.x=(g.s (i+g.k)).q.x))/\A (J=J)/\A ((g.s (i+g.k)).q.y=(g.s (i+g.k)).q.y))/\A (J=J)/\A ((g.s (i+g.k)).o=(g.s (i+g.k)).o))/\A (J=J)/\A ((g.s (i+g.k)).size=(g.s (i+g.k)).size))/\(A (g_1.snd.length+(1:Nat)=g'.snd.length)/\∀ i:Nat,i<g'.snd.length->(True/\A (J=J)/\A ((bif decide (i<g_1.snd.length) then (ptI g_1.snd i).x else (g.s ((↑g_1.fst:Int).toNat+g.k)).q.x)=(ptI g'.snd i).x))/\A (J=J)/\A ((bif decide (i<g_1.snd.length) then (ptI g_1.snd i).y else (g.s ((↑g_1.fst:Int).toNat+g.k)).q.y)=(ptI g'.snd i).y))/\True)/\A ((tkI g).meas g'<(tkI g).meas g_1)) (A ((-9223372036854775808:Int)<=(↑g_1.fst:Int)+(1:Int)/\(↑g_1.fst:Int)+(1:Int)<=(9223372036854775807:Int))/\True/\∃ (g':Nat×List Go.Proofs.YtmhofgchidojoaaGreat.Con.Pt),A ((tkI g).pre g')/\True/\((A ((0:Nat)=(0:Nat))/\(A (J=J)/\A (g.a=g.a))/\(A (J=J)/\A (g.b=g.b))/\True/\(A (g.m-g.k=g.m-g.k)/\∀ i:Nat,i<g.m-g.k->(((((True/\A (J=J)/\A ((g.s (i+g.k)).p.x=(g.s (i+g.k)).p.x))/\A (J=J)/\A ((g.s (i+g.k)).p.y=(g.s (i+g.k)).p.y))/\A (J=J)/\A ((g.s (i+g.k)).q.x=(g.s (i+g.k)).q.x))/\A (J=J)/\A ((g.s (i+g.k)).q.y=(g.s (i+g.k)).q.y))/\A (J=J)/\A ((g.s (i+g.k)).o=(g.s (i+g.k)).o))/\A (J=J)/\A ((g.s (i+g.k)).size=(g.s (i+g.k)).size))/\(A (J=J)/\A ((↑(g.m-g.k):Int)=(↑(g.m-g.k):Int)))/\(A (J=J)/\A ((↑g_1.fst:Int)+(1:Int)=(↑g'.fst:Int)))/\True)/\(True/\A (g.m-g.k=g.m-g.k)/\∀ i:Nat,i<g.m-g.k->(((((True/\A (J=J)/\A ((g.s (i+g.k)).p.x=(g.s (i+g.k)).p.x))/\A (J=J)/\A ((g.s (i+g.k)).p.y=(g.s (i+g.k)).p.y))/\A (J=J)/\A ((g.s (i+g.k)).q.x=(g.s (i+g.k)).q.x))/\A (J=J)/\A ((g.s (i+g.k)).q.y=(g.s (i+g.k)).q.y))/\A (J=J)/\A ((g.s (i+g.k)).o=(g.s (i+g.k)).o))/\A (J=J)/\A ((g.s (i+g.k)).size=(g.s (i+g.k)).size))/\(A (g_1.snd.length=g'.snd.length)/\∀ i:Nat,i<g'.snd.length->(True/\A (J=J)/\A ((ptI g_1.snd i).x=(ptI g'.snd i).x))/\A (J=J)/\A ((ptI g_1.snd i).y=(ptI g'.snd i).y))/\True)/\A ((tkI g).meas g'<(tkI g).meas g_1))) (True/\A ((-9223372036854775808:Int)<=(↑g_1.fst:Int)+(1:Int)/\(↑g_1.fst:Int)+(1:Int)<=(9223372036854775807:Int))/\True/\∃ (g':Nat×List Go.Proofs.YtmhofgchidojoaaGreat.Con.Pt),A ((tkI g).pre g')/\True/\((A ((0:Nat)=(0:Nat))/\(A (J=J)/\A (g.a=g.a))/\(A (J=J)/\A (g.b=g.b))/\True/\(A (g.m-g.k=g.m-g.k)/\∀ i:Nat,i<g.m-g.k->(((((True/\A (J=J)/\A ((g.s (i+g.k)).p.x=(g.s (i+g.k)).p.x))/\A (J=J)/\A ((g.s (i+g.k)).p.y=(g.s (i+g.k)).p.y))/\A (J=J)/\A ((g.s (i+g.k)).q.x=(g.s (i+g.k)).q.x))/\A (J=J)/\A ((g.s (i+g.k)).q.y=(g.s (i+g.k)).q.y))/\A (J=J)/\A ((g.s (i+g.k)).o=(g.s (i+g.k)).o))/\A (J=J)/\A ((g.s (i+g.k)).size=(g.s (i+g.k)).size))/\(A (J=J)/\A ((↑(g.m-g.k):Int)=(↑(g.m-g.k):Int)))/\(A (J=J)/\A ((↑g_1.fst:Int)+(1:Int)=(↑g'.fst:Int)))/\True)/\(True/\A (g.m-g.k=g.m-g.k)/\∀ i:Nat,i<g.m-g.k->(((((True/\A (J=J)/\A ((g.s (i+g.k)).p.x=(g.s (i+g.k)).p.x))/\A (J=J)/\A ((g.s (i+g.k)).p.y=(g.s (i+g.k)).p.y))/\A (J=J)/\A ((g.s (i+g.k)).q.x=(g.s (i+g.k)).q.x))/\A (J=J)/\A ((g.s (i+g.k)).q.y=(g.s (i+g.k)).q.y))/\A (J=J)/\A ((g.s (i+g.k)).o=(g.s (i+g.k)).o))/\A (J=J)/\A ((g.s (i+g.k)).size=(g.s (i+g.k)).size))/\(A (g_1.snd.length=g'.snd.length)/\∀ i:Nat,i<g'.snd.length->(True/\A (J=J)/\A ((ptI g_1.snd i).x=(ptI g'.snd i).x))/\A (J=J)/\A ((ptI g_1.snd i).y=(ptI g'.snd i).y))/\True)/\A ((tkI g).meas g'<(tkI g).meas g_1)))) (True/\True/\True/\True/\((A (g_1.snd.length=g.L.length)/\∀ i:Nat,i<g.L.length->(True/\A (J=J)/\A ((ptI g_1.snd i).x=(ptI g.L i).x))/\A (J=J)/\A ((ptI g_1.snd i).y=(ptI g.L i).y))/\True)/\(True/\A (g.m-g.k=g.m-g.k)/\∀ i:Nat,i<g.m-g.k->(((((True/\A (J=J)/\A ((g.s (i+g.k)).p.x=(g.s (i+g.k)).p.x))/\A (J=J)/\A ((g.s (i+g.k)).p.y=(g.s (i+g.k)).p.y))/\A (J=J)/\A ((g.s (i+g.k)).q.x=(g.s (i+g.k)).q.x))/\A (J=J)/\A ((g.s (i+g.k)).q.y=(g.s (i+g.k)).q.y))/\A (J=J)/\A ((g.s (i+g.k)).o=(g.s (i+g.k)).o))/\A (J=J)/\A ((g.s (i+g.k)).size=(g.s (i+g.k)).size))/\True)) (by kernel_rfl) ?_
 simp only [ask_iff,br_iff,eq_self,true_and,and_true,implies_true,forall_const,decide_eq_true_eq,decide_eq_false_iff_not,ne_eq,Nat.mul_one,Nat.add_zero,Nat.zero_add]
 have ek:({ m:=g.m,s:=g.s,a:=g.a }:SkG).k=g.k:=rfl
 have z0:Int.toNat 0+g.k=g.k:=by omega
 rw [ek,z0]
 obtain ⟨⟨⟨hm,hs⟩,ha,hb⟩,he⟩:=hg
 have hk:g.k<g.m:=sk_lt he
 have hk2:¬ ((g.s g.k).size=0\/(g.s g.k).o+(g.s g.k).size<g.a):=(sk_spec g.a g.m g.s).2.2 hk
 have hkb:=hs g.k hk
 refine ⟨⟨⟨hm,hs⟩,ha⟩,by omega,po_ok hkb ha (by omega),⟨(0,[ptAt (g.s g.k) g.a]),⟨⟨Nat.zero_le _,Nat.le_refl 1⟩,rfl⟩,⟨⟨rfl,fun i _=>six rfl⟩,rfl,rfl⟩,⟨rfl,fun i _=>six rfl⟩,rfl,fun i hi=>?_⟩,?_⟩
 ·obtain rfl:i=0:=by have hi:i<1:=hi; omega
  exact ⟨rfl,rfl⟩
 rintro ⟨i,L⟩ hi
 obtain ⟨⟨hi1,hi2⟩,hi3⟩:(i<=g.m-g.k/\L.length<=i+1)/\g.L=tk (fun j=>g.s (j+i+g.k)) g.a g.b (g.m-g.k-i) L:=hi
 dsimp only
 have z1:((i:Int)).toNat=i:=rfl
 rw [z1]
 refine ⟨fun h=>?_,fun h=>?_⟩
 ·have e1:g.m-g.k-i=(g.m-g.k-(i+1))+1:=by omega
  rw [e1] at hi3
  have hi4:g.L=if (0<(g.s (0+i+g.k)).size/\(g.s (0+i+g.k)).o<=g.b)/\g.b<=(g.s (0+i+g.k)).o+(g.s (0+i+g.k)).size then L++[ptAt (g.s (0+i+g.k)) g.b] else tk (fun j=>g.s (j+1+i+g.k)) g.a g.b (g.m-g.k-(i+1)) (if g.a<(g.s (0+i+g.k)).o+(g.s (0+i+g.k)).size/\(g.s (0+i+g.k)).o+(g.s (0+i+g.k)).size<g.b then L++[(g.s (0+i+g.k)).q] else L):=hi3
  rw [Nat.zero_add] at hi4
  have e2:(fun j=>g.s (j+1+i+g.k))=fun j=>g.s (j+(i+1)+g.k):=funext fun j=>congrArg g.s (by omega)
  rw [e2] at hi4
  have hsb:=hs (i+g.k) (by omega)
  clear hi3
  generalize g.s (i+g.k)=S at *
  have la:∀ p:Pt,(L++[p]).length=L.length+1:=fun p=>by simp
  have hms:g.m-(i+1)<g.m-i:=by omega
  have c1:0<=(i:Int)/\(i:Int)<((g.m-g.k:Nat):Int):=by omega
  have c2 : -9223372036854775808<=S.o+S.size/\S.o+S.size<=9223372036854775807:=by omega
  have c3:0<S.size->1<=S.size:=fun h=>by omega
  have c4:L.length+1<=9223372036854775807/\(L.length+1)*16<=140737488355328:=by omega
  have c5:i+1<=g.m-g.k:=by omega
  have c6:L.length+1<=i+1+1:=by omega
  have c7 : -9223372036854775808<=(i:Int)+1/\(i:Int)+1<=9223372036854775807:=by omega
  have stay:¬ ((0<S.size/\S.o<=g.b)/\g.b<=S.o+S.size)->¬ (g.a<S.o+S.size/\S.o+S.size<g.b)->(-9223372036854775808<=(i:Int)+1/\(i:Int)+1<=9223372036854775807)/\∃ g':Nat×List Pt,(tkI g).pre g'/\((i:Int)+1=(g'.1:Int)/\L.length=g'.2.length/\∀ j,j<g'.2.length->(ptI L j).x=(ptI g'.2 j).x/\(ptI L j).y=(ptI g'.2 j).y)/\(tkI g).meas g'<(tkI g).meas (i,L):=fun h1 h2=>by
   rw [if_neg h1,if_neg h2] at hi4
   exact ⟨c7,(i+1,L),⟨⟨c5,Nat.le_of_succ_le c6⟩,hi4⟩,⟨rfl,rfl,fun _ _=>⟨rfl,rfl⟩⟩,hms⟩
  have more:¬ ((0<S.size/\S.o<=g.b)/\g.b<=S.o+S.size)->(g.a<S.o+S.size/\S.o+S.size<g.b)->(L.length+1<=9223372036854775807/\(L.length+1)*16<=140737488355328)/\(-9223372036854775808<=(i:Int)+1/\(i:Int)+1<=9223372036854775807)/\∃ g':Nat×List Pt,(tkI g).pre g'/\((i:Int)+1=(g'.1:Int)/\L.length+1=g'.2.length/\∀ j,j<g'.2.length->(bif decide (j<L.length) then (ptI L j).x else S.q.x)=(ptI g'.2 j).x/\(bif decide (j<L.length) then (ptI L j).y else S.q.y)=(ptI g'.2 j).y)/\(tkI g).meas g'<(tkI g).meas (i,L):=fun h1 h2=>by
   rw [if_neg h1,if_pos h2] at hi4
   exact ⟨c4,c7,(i+1,L++[S.q]),⟨⟨c5,by show (L++[S.q]).length<=i+1+1; rw [la]; exact c6⟩,hi4⟩,⟨rfl,(la _).symm,fun j hj=>app_xy L S.q j hj⟩,hms⟩
  refine ⟨c1,c2,fun p1=>⟨fun p2=>⟨fun p3=>⟨po_ok hsb hb (c3 p1),c4,?_⟩,fun p3=>⟨fun h2=>⟨fun h3=>more (fun h=>p3 h.2) ⟨h2,h3⟩,fun h3=>stay (fun h=>p3 h.2) fun h=>h3 h.2⟩,fun h2=>stay (fun h=>p3 h.2) fun h=>h2 h.1⟩⟩,fun p2=>⟨fun h2=>⟨fun h3=>more (fun h=>p2 h.1.2) ⟨h2,h3⟩,fun h3=>stay (fun h=>p2 h.1.2) fun h=>h3 h.2⟩,fun h2=>stay (fun h=>p2 h.1.2) fun h=>h2 h.1⟩⟩,fun p1=>⟨fun h2=>⟨fun h3=>more (fun h=>p1 h.1.1) ⟨h2,h3⟩,fun h3=>stay (fun h=>p1 h.1.1) fun h=>h3 h.2⟩,fun h2=>stay (fun h=>p1 h.1.1) fun h=>h2 h.1⟩⟩
  rw [if_pos ⟨⟨p1,p2⟩,p3⟩] at hi4
  rw [hi4]
  exact ⟨(la _).symm,fun j hj=>app_xy L (ptAt S g.b) j hj⟩
 ·have e1:g.m-g.k-i=0:=by omega
  rw [e1] at hi3
  have e3:g.L=L:=hi3
  rw [e3]
  exact ⟨rfl,fun _ _=>⟨rfl,rfl⟩⟩
end Go.Proofs.YtmhofgchidojoaaGreat.Dsi
