/- printworkstop.TopFringe returns true for every width and height, every list of vectors, every step, radius, ink and shift, and leaves its arguments as they were. -/
import Derived.Test.YtnhecfkpiojmhaaGreatM11
import Derived.Test.YtnhecfkpiojmhaaGreatRows
set_option maxRecDepth 100000
set_option linter.all false
namespace Go.Proofs.YtnhecfkpiojmhaaGreat.topFringe
open Go.ChangeShapes Go.WideShapes Go.ChangeAt Go.RowKit
open Sx
theorem bB6{P:Program}{t:TypeId}{v:Value}{w:World}{T:Tape}(h:Leaf P w t v):Leaf P {Hid.clean w with tape:=T} t v:=by
 obtain⟨H,enc,fuel,x,hx⟩:=h;exact⟨H,enc,fuel,x,by rw[Hid.by5 (V:={Hid.clean w with tape:=T}) (W:=w) (λa=>Hid.bD5 w a) (λb es c=>Hid.bR5 w b es c)];exact hx⟩
theorem walk(a0 a1:Int)(a2:Value)(a3 a4 a5 x0 x1:Int)(w:World)(T:Tape)(L:Leaf Tryz.prog w 22 a2)(S1:Szd.Szd Tryz.prog 45 a2):
  Calls Hid.twp 3 #[.int .i64 a0,.int .i64 a1,a2,.int .i64 a3,.int .i64 a4,.int .i64 a5,.agg #[.int .i64 x0,.int .i64 x1]] {Hid.clean w with tape:=T} λe w'=>e=.returned (.bool true)/\Below w.heap.size {Hid.clean w with tape:=T} w':=by
 have L1:=bB6 (T:=T) L;obtain⟨len,f,hR,hw,hlen⟩:=bO5 (k:=.u8) (t:=5) 8 Tryz.underlying22 Tryz.underlying5 (by kernel_rfl) (by decide) (by kernel_rfl) L1;have hR1:=hR (λi j=>.int .u8 (f i j)) (λi j hj=>match j,hj with|0,_=>rfl|1,_=>rfl|2,_=>rfl|3,_=>rfl|4,_=>rfl|5,_=>rfl|6,_=>rfl|7,_=>rfl);have hb:=Szd.cb7 S1 hR1;have e8:Tryz.prog.bytesOf 45=8:=by kernel_rfl
 have eR:reachBytes=140737488351232:=by kernel_rfl
 rw[e8,eR]at hb;have wu:∀i j,i<len->j<8->0<=f i j/\f i j<=255:=λi j hi hj=>wf_u8 (hw i j hi hj)
 have key:=cs0 Frc.cp9 ⟨a0,a1,len,f,a3,a4,a5,x0,x1⟩ rfl
  ⟨trivial,trivial,λi j=>trivial,trivial,trivial,trivial,aP8 ⟨trivial,trivial,trivial⟩,trivial⟩
  ⟨(show len<=17592186044416 by omega),wu⟩
  (vals:=[.int .i64 a0,.int .i64 a1,a2,.int .i64 a3,.int .i64 a4,.int .i64 a5,.agg #[.int .i64 x0,.int .i64 x1]]) (w:={Hid.clean w with tape:=T})
  ⟨.int,.int,hR1,.int,.int,.int,R_agg (r:=[_,_]) ⟨.int,.int,trivial⟩ rfl (λv hv=>by simp at hv;rcases hv with rfl|rfl <;> rfl),trivial⟩
 have es:(Hid.clean w).heap.size=w.heap.size:=by simp[Hid.clean]
 rw[show({Hid.clean w with tape:=T}:World).heap.size=w.heap.size from es]at key;exact key
theorem own:ownKnob Tryz.prog.godebug=none:=by kernel_rfl
theorem laidOut:laidOutB Tryz.prog=true:=by kernel_rfl
theorem lifted(os:Os)(started:os.Started)(H:Type)(enc:TypeId × Value->H):
  ReturnsInLeavingWide {} Tryz.checked os 3 .any (Rows.topFringeSpec.pre6 enc Tryz.prog Tryz.f3 Rows.topFringeRow.domain false) (Rows.topFringeSpec.post enc Tryz.prog Tryz.f3 false true false false):=by
 refine Hid.aQ5 own started Tw.func3 Tryz.func3 (by kernel_rfl) (λtmps=>⟨tmps.getD 14 undef,λq w es=>by simp[results,Tryz.results3]⟩)
  (ChangeSpec.witness6 (enc:=enc) (C:=Tryz.checked) false ⟨#[],#[.int .i64 0,.int .i64 0,.slice none 0 0,.int .i64 0,.int .i64 0,.int .i64 0,.agg #[.int .i64 0,.int .i64 0]],[]⟩ 8 (by kernel_rfl) (by kernel_rfl) (by kernel_rfl) (by kernel_rfl)) ?_
 intro W base args ds gs before hval0 hW hcnd hsz;have hval:∀(j:Nat) t v,Tryz.f3.params[j]?=some t->args[j]?=some v->Value.okWide Tryz.prog W .any base t v:=hval0;have hW':=hW;obtain⟨p,q,hA0,hV,rfl,hfz,hnd⟩:=hW;have hA:DataW.TrodAll enc Tryz.prog W 0 (λ_=>true) true Tryz.f3.params.toList args.toList ds p:=hA0;rw[Tryz.params3]at hA hval;obtain⟨v0,vs0,d0,ds0,p0,q0,hargs,rfl,rfl,h0,r0⟩:=trodAll_cons hA;obtain⟨v1,vs1,d1,ds1,p1,q1,rfl,rfl,rfl,h1,r1⟩:=trodAll_cons r0;obtain⟨v2,vs2,d2,ds2,p2,q2,rfl,rfl,rfl,h2,r2⟩:=trodAll_cons r1;obtain⟨v3,vs3,d3,ds3,p3,q3,rfl,rfl,rfl,h3,r3⟩:=trodAll_cons r2;obtain⟨v4,vs4,d4,ds4,p4,q4,rfl,rfl,rfl,h4,r4⟩:=trodAll_cons r3;obtain⟨v5,vs5,d5,ds5,p5,q5,rfl,rfl,rfl,h5,r5⟩:=trodAll_cons r4;obtain⟨v6,vs6,d6,ds6,p6,q6,rfl,rfl,rfl,h6,r6⟩:=trodAll_cons r5;obtain⟨rfl,rfl,rfl⟩:=trodAll_nil r6;obtain rfl:args = #[v0,v1,v2,v3,v4,v5,v6]:=by cases args;simp_all
 obtain⟨rfl,rfl⟩:=trodVars_none hV;obtain⟨a0,rfl,rfl,rfl,w0⟩:=open_int Tryz.underlying3 (hval 0 3 v0 rfl rfl) h0;obtain⟨a1,rfl,rfl,rfl,w1⟩:=open_int Tryz.underlying3 (hval 1 3 v1 rfl rfl) h1;have L1:Leaf Tryz.prog W 22 v2:=bm7 Tryz.underlying22 (hval 2 22 v2 rfl rfl) h2;obtain⟨a3,rfl,rfl,rfl,w3⟩:=open_int Tryz.underlying3 (hval 3 3 v3 rfl rfl) h3;obtain⟨a4,rfl,rfl,rfl,w4⟩:=open_int Tryz.underlying3 (hval 4 3 v4 rfl rfl) h4;obtain⟨a5,rfl,rfl,rfl,w5⟩:=open_int Tryz.underlying3 (hval 5 3 v5 rfl rfl) h5;obtain⟨c6,rfl,l0⟩:=be4 (n:=20) (P:=Tryz.prog) Tryz.underlying24 (by kernel_rfl:leaves Tryz.prog 20 24=some [3,3]) (hval 6 24 v6 rfl rfl) h6;obtain⟨y0,m0,rfl,e0,l1⟩:=All2.cons_inv l0;obtain⟨x0,rfl,_⟩:=a52 Tryz.underlying3 e0;obtain⟨y1,m1,rfl,e1,l2⟩:=All2.cons_inv l1;obtain⟨x1,rfl,_⟩:=a52 Tryz.underlying3 e1;obtain rfl:=All2.bN2 l2
 have S1:Szd.Szd Tryz.prog 45 v2:=Szd.bL0 Tryz.underlying22 h2 (λel sp he=>sized_slice hsz (j:=2) (by kernel_rfl) (he ▸ rfl) Tryz.underlying22);clear hA0 hval0;exact⟨λT=>walk a0 a1 v2 a3 a4 a5 x0 x1 W T L1 S1,λC hg=>bZ3 laidOut (by kernel_rfl) (by kernel_rfl) Tryz.underlying4 rfl hW' rfl hg⟩
theorem over:Rows.topFringeRow.holds Tryz.pinned (OpenSpec.ofChange Rows.topFringeSpec):=
 OpenClaim.holds_of_wide_leaving 3 Tryz.f3 rfl rfl rfl rfl rfl rfl rfl ⟨rfl,rfl,rfl,rfl,rfl⟩ rfl rfl rfl rfl rfl (by kernel_rfl) Tryz.func3 (by kernel_rfl)
  (of_decide_eq_true (by kernel_rfl)) (by unfold Func.isWrapper;first|(rw[if_pos (by decide +kernel)];kernel_rfl)|(rw[if_neg (by decide +kernel)];exact⟨rfl,rfl⟩))
  (λos started H enc _=>lifted os started H enc)
theorem proved:Rows.TopFringeSaid :=
 over
end Go.Proofs.YtnhecfkpiojmhaaGreat.topFringe
