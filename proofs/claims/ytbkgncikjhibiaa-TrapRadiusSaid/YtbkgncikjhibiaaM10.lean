import Derived.Test.YtbkgncikjhibiaaM9
set_option linter.unusedSimpArgs false
set_option linter.unusedVariables false
set_option linter.unusedSectionVars false
/- Part 10 of the texts that the law's proof leans on. -/
namespace Go.Proofs.Ytbkgncikjhibiaa
namespace Hid
open Ar
open Go Go.Proofs Go.RowKit Go.Conc
variable [Junk]
def aE9 (P:Program) (fr:Frame):Bool:=match fr.mode,fr.roundOf,fr.todo with
 | .run,none,.inRegion ops (i::_)::_=>((ops[i]?).map (Region.wanted · (yielded ops fr.tmps))).getD false&&bs7 fr.kind&&match fr.oper? with
  | some o=>match runA P (execOp fr.eval o) [] with
   | some (.inr (.stuck _),[])=>true
   | some (.inr (.unsupported (.initOrder _)),[])=>false
   | some (.inr (.unsupported _),[])=>true
   | _=>false
  | none=>false
 | .run,none,.code (.refuse _)::_=>true
 | _,_,_=>false
theorem ad0 {p:Program}{f:FuncId}{Q:Value->World->Prop}{fr:Frame}{cs:List Frame}{L:World}(h:aE9 p fr=true) (ht:Tree p (AtRet p f Q) (G fr cs) L):False:=by
 have hm:fr.mode = .run:=by
  cases e:fr.mode with
  | run=>rfl
  | _=>simp [aE9,e] at h
 obtain ⟨g',L',es,e,_⟩:=ht.goes (as6 hm) L.drawn;cases hr:fr.roundOf with
 | some _=>simp [aE9,hm,hr] at h
 | none=>
  cases hq:fr.todo with
  | nil=>simp [aE9,hm,hr,hq] at h
  | cons i k=>
   cases i with
   | code c=>
    cases c with
    | refuse s=>simp [stepG,G,hm,stepG.exec,hq] at e
    | _=>simp [aE9,hm,hr,hq] at h
   | inRegion ops js=>
    cases js with
    | nil=>simp [aE9,hm,hr,hq] at h
    | cons j js=>
     simp only [aE9,hm,hr,hq,lu] at h;obtain ⟨⟨hw,hk⟩,h⟩:=h;cases ho:fr.oper? with
     | none=>rw [ho] at h; cases h
     | some o=>
      rw [ho] at h;simp only at h
      have hk':(fr.kind==CallKind.early)=false:=by cases hh:fr.kind<;>first | rfl | (rw [hh] at hk; cases hk)
      have e1:stepG p true (G fr cs) (L.at L.drawn)=stepG.apply p true fr cs none (execOp fr.eval o) (L.at L.drawn):=by
       simp only [stepG,G,hm,stepG.exec,hq,hw,xf,stepG.oper,ho,hr]
      rw [e1] at e;unfold stepG.apply at e;split at h
      ·rename_i s hra;have hs:=ao3 hra (w:=L.at L.drawn) (es:=#[]) trivial;simp only [hs,aq1,hk',xf,lG,xj] at e;simp [GStep.after] at e
      ·cases h
      ·rename_i u hni hra;have hs:=ao3 hra (w:=L.at L.drawn) (es:=#[]) trivial;simp only [hs,aq1,hk',xf,lG,xj] at e;cases u<;>first | exact absurd rfl (hni _) | (simp [GStep.after] at e)
      ·cases h
   | _=>simp [aE9,hm,hr,hq] at h
noncomputable def tT1:Code:=sR as4
noncomputable def tT2:Code:=sR tT1
noncomputable def tT3:Code:=sR tT2
theorem bN9 {f:FuncId}{Q:Value->World->Prop}{v0 v1 v2 v3 v4 v5:Value}{w:Nat->Value}{rest:List Value}{cs:List Frame}{L:World}(ht:Tree twp (AtRet twp f Q) (G (fr ⟨v0::v1::v2::v3::v4::v5::w 6::w 7::w 8::w 9::w 10::w 11::w 12::w 13::w 14::w 15::w 16::w 17::w 18::w 19::w 20::w 21::w 22::w 23::w 24::w 25::w 26::w 27::w 28::w 29::w 30::w 31::w 32::w 33::w 34::w 35::w 36::w 37::rest⟩ [.code as4]) cs) L) :
  ∃ b0 n0 c0 i1 i2 b3 n3 c3 i4,v0 = .slice b0 n0 c0/\v1 = .int .i64 i1/\v2 = .int .i64 i2/\v3 = .slice b3 n3 c3/\v4 = .int .i64 i4/\v5 = .int .i64 1/\n3<=8:=by
 have s0:=(ad7 (p:=twp) 2 (s:=(fr ⟨v0::v1::v2::v3::v4::v5::w 6::w 7::w 8::w 9::w 10::w 11::w 12::w 13::w 14::w 15::w 16::w 17::w 18::w 19::w 20::w 21::w 22::w 23::w 24::w 25::w 26::w 27::w 28::w 29::w 30::w 31::w 32::w 33::w 34::w 35::w 36::w 37::rest⟩ [.code as4],cs)) (s':=(fr ⟨v0::v1::v2::v3::v4::v5::w 6::w 7::w 8::w 9::w 10::w 11::w 12::w 13::w 14::w 15::w 16::w 17::w 18::w 19::w 20::w 21::w 22::w 23::w 24::w 25::w 26::w 27::w 28::w 29::w 30::w 31::w 32::w 33::w 34::w 35::w 36::w 37::rest⟩ [.inRegion aw5 [0,1,2,3,4,5,6],.code tT1],cs)) (ans:=[]) (ls:=[]) (by kernel_rfl) trivial ht).1;have h0:∃ b0 n0 c0,v0 = .slice b0 n0 c0:=by
  cases v0 with
  | slice b n c=>exact ⟨b,n,c,rfl⟩
  | pointer a=>cases a<;>exact (ad0 (p:=twp) (by kernel_rfl) s0).elim
  | _=>exact (ad0 (p:=twp) (by kernel_rfl) s0).elim
 obtain ⟨b0,n0,c0,rfl⟩:=h0;have s1:=(ad7 (p:=twp) 1 (s:=(fr ⟨.slice b0 n0 c0::v1::v2::v3::v4::v5::w 6::w 7::w 8::w 9::w 10::w 11::w 12::w 13::w 14::w 15::w 16::w 17::w 18::w 19::w 20::w 21::w 22::w 23::w 24::w 25::w 26::w 27::w 28::w 29::w 30::w 31::w 32::w 33::w 34::w 35::w 36::w 37::rest⟩ [.inRegion aw5 [0,1,2,3,4,5,6],.code tT1],cs)) (s':=(fr ⟨.slice b0 n0 c0::v1::v2::v3::v4::v5::w 6::w 7::w 8::w 9::w 10::w 11::w 12::w 13::w 14::w 15::w 16:: .int .i64 n0::w 18::w 19::w 20::w 21::w 22::w 23::w 24::w 25::w 26::w 27::w 28::w 29::w 30::w 31::w 32::w 33::w 34::w 35::w 36::w 37::rest⟩ [.inRegion aw5 [1,2,3,4,5,6],.code tT1],cs)) (ans:=[]) (ls:=[]) (by kernel_rfl) trivial s0).1;have h1:∃ b3 n3 c3,v3 = .slice b3 n3 c3:=by
  cases v3 with
  | slice b n c=>exact ⟨b,n,c,rfl⟩
  | pointer a=>cases a<;>exact (ad0 (p:=twp) (by kernel_rfl) s1).elim
  | _=>exact (ad0 (p:=twp) (by kernel_rfl) s1).elim
 obtain ⟨b3,n3,c3,rfl⟩:=h1;have s2:=(ad7 (p:=twp) 1 (s:=(fr ⟨.slice b0 n0 c0::v1::v2:: .slice b3 n3 c3::v4::v5::w 6::w 7::w 8::w 9::w 10::w 11::w 12::w 13::w 14::w 15::w 16:: .int .i64 n0::w 18::w 19::w 20::w 21::w 22::w 23::w 24::w 25::w 26::w 27::w 28::w 29::w 30::w 31::w 32::w 33::w 34::w 35::w 36::w 37::rest⟩ [.inRegion aw5 [1,2,3,4,5,6],.code tT1],cs)) (s':=(fr ⟨.slice b0 n0 c0::v1::v2:: .slice b3 n3 c3::v4::v5::w 6::w 7::w 8::w 9::w 10::w 11::w 12::w 13::w 14::w 15::w 16:: .int .i64 n0:: .int .i64 n3::w 19::w 20::w 21::w 22::w 23::w 24::w 25::w 26::w 27::w 28::w 29::w 30::w 31::w 32::w 33::w 34::w 35::w 36::w 37::rest⟩ [.inRegion aw5 [2,3,4,5,6],.code tT1],cs)) (ans:=[]) (ls:=[]) (by kernel_rfl) trivial s1).1;have h2:∃ i1,v1 = .int .i64 i1:=by
  cases v1 with
  | int k n=>cases k<;>first | exact ⟨n,rfl⟩ | exact (ad0 (p:=twp) (by kernel_rfl) s2).elim
  | pointer a=>cases a<;>exact (ad0 (p:=twp) (by kernel_rfl) s2).elim
  | _=>exact (ad0 (p:=twp) (by kernel_rfl) s2).elim
 obtain ⟨i1,rfl⟩:=h2;have s3:=(ad7 (p:=twp) 1 (s:=(fr ⟨.slice b0 n0 c0:: .int .i64 i1::v2:: .slice b3 n3 c3::v4::v5::w 6::w 7::w 8::w 9::w 10::w 11::w 12::w 13::w 14::w 15::w 16:: .int .i64 n0:: .int .i64 n3::w 19::w 20::w 21::w 22::w 23::w 24::w 25::w 26::w 27::w 28::w 29::w 30::w 31::w 32::w 33::w 34::w 35::w 36::w 37::rest⟩ [.inRegion aw5 [2,3,4,5,6],.code tT1],cs)) (s':=(fr ⟨.slice b0 n0 c0:: .int .i64 i1::v2:: .slice b3 n3 c3::v4::v5::w 6::w 7::w 8::w 9::w 10::w 11::w 12::w 13::w 14::w 15::w 16:: .int .i64 n0:: .int .i64 n3::w 19::w 20::w 21:: .bool (decide (i1<0))::w 23::w 24::w 25::w 26::w 27::w 28::w 29::w 30::w 31::w 32::w 33::w 34::w 35::w 36::w 37::rest⟩ [.inRegion aw5 [3,4,5,6],.code tT1],cs)) (ans:=[]) (ls:=[]) (by kernel_rfl) trivial s2).1;have h3:∃ i2,v2 = .int .i64 i2:=by
  cases v2 with
  | int k n=>cases k<;>first | exact ⟨n,rfl⟩ | exact (ad0 (p:=twp) (by kernel_rfl) s3).elim
  | pointer a=>cases a<;>exact (ad0 (p:=twp) (by kernel_rfl) s3).elim
  | _=>exact (ad0 (p:=twp) (by kernel_rfl) s3).elim
 obtain ⟨i2,rfl⟩:=h3;have s4:=(ad7 (p:=twp) 1 (s:=(fr ⟨.slice b0 n0 c0:: .int .i64 i1:: .int .i64 i2:: .slice b3 n3 c3::v4::v5::w 6::w 7::w 8::w 9::w 10::w 11::w 12::w 13::w 14::w 15::w 16:: .int .i64 n0:: .int .i64 n3::w 19::w 20::w 21:: .bool (decide (i1<0))::w 23::w 24::w 25::w 26::w 27::w 28::w 29::w 30::w 31::w 32::w 33::w 34::w 35::w 36::w 37::rest⟩ [.inRegion aw5 [3,4,5,6],.code tT1],cs)) (s':=(fr ⟨.slice b0 n0 c0:: .int .i64 i1:: .int .i64 i2:: .slice b3 n3 c3::v4::v5::w 6::w 7::w 8::w 9::w 10::w 11::w 12::w 13::w 14::w 15::w 16:: .int .i64 n0:: .int .i64 n3::w 19::w 20::w 21:: .bool (decide (i1<0)):: .bool (decide (i2<0))::w 24::w 25::w 26::w 27::w 28::w 29::w 30::w 31::w 32::w 33::w 34::w 35::w 36::w 37::rest⟩ [.inRegion aw5 [4,5,6],.code tT1],cs)) (ans:=[]) (ls:=[]) (by kernel_rfl) trivial s3).1;have h4:∃ i4,v4 = .int .i64 i4:=by
  cases v4 with
  | int k n=>cases k<;>first | exact ⟨n,rfl⟩ | exact (ad0 (p:=twp) (by kernel_rfl) s4).elim
  | pointer a=>cases a<;>exact (ad0 (p:=twp) (by kernel_rfl) s4).elim
  | _=>exact (ad0 (p:=twp) (by kernel_rfl) s4).elim
 obtain ⟨i4,rfl⟩:=h4;have s5:=(ad7 (p:=twp) 1 (s:=(fr ⟨.slice b0 n0 c0:: .int .i64 i1:: .int .i64 i2:: .slice b3 n3 c3:: .int .i64 i4::v5::w 6::w 7::w 8::w 9::w 10::w 11::w 12::w 13::w 14::w 15::w 16:: .int .i64 n0:: .int .i64 n3::w 19::w 20::w 21:: .bool (decide (i1<0)):: .bool (decide (i2<0))::w 24::w 25::w 26::w 27::w 28::w 29::w 30::w 31::w 32::w 33::w 34::w 35::w 36::w 37::rest⟩ [.inRegion aw5 [4,5,6],.code tT1],cs)) (s':=(fr ⟨.slice b0 n0 c0:: .int .i64 i1:: .int .i64 i2:: .slice b3 n3 c3:: .int .i64 i4::v5::w 6::w 7::w 8::w 9::w 10::w 11::w 12::w 13::w 14::w 15::w 16:: .int .i64 n0:: .int .i64 n3::w 19::w 20::w 21:: .bool (decide (i1<0)):: .bool (decide (i2<0)):: .bool (decide (i4<0))::w 25::w 26::w 27::w 28::w 29::w 30::w 31::w 32::w 33::w 34::w 35::w 36::w 37::rest⟩ [.inRegion aw5 [5,6],.code tT1],cs)) (ans:=[]) (ls:=[]) (by kernel_rfl) trivial s4).1;have h5:∃ i5,v5 = .int .i64 i5:=by
  cases v5 with
  | int k n=>cases k<;>first | exact ⟨n,rfl⟩ | exact (ad0 (p:=twp) (by kernel_rfl) s5).elim
  | pointer a=>cases a<;>exact (ad0 (p:=twp) (by kernel_rfl) s5).elim
  | _=>exact (ad0 (p:=twp) (by kernel_rfl) s5).elim
 obtain ⟨i5,rfl⟩:=h5;have s6:=(ad7 (p:=twp) 1 (s:=(fr ⟨.slice b0 n0 c0:: .int .i64 i1:: .int .i64 i2:: .slice b3 n3 c3:: .int .i64 i4:: .int .i64 i5::w 6::w 7::w 8::w 9::w 10::w 11::w 12::w 13::w 14::w 15::w 16:: .int .i64 n0:: .int .i64 n3::w 19::w 20::w 21:: .bool (decide (i1<0)):: .bool (decide (i2<0)):: .bool (decide (i4<0))::w 25::w 26::w 27::w 28::w 29::w 30::w 31::w 32::w 33::w 34::w 35::w 36::w 37::rest⟩ [.inRegion aw5 [5,6],.code tT1],cs)) (s':=(fr ⟨.slice b0 n0 c0:: .int .i64 i1:: .int .i64 i2:: .slice b3 n3 c3:: .int .i64 i4:: .int .i64 i5::w 6::w 7::w 8::w 9::w 10::w 11::w 12::w 13::w 14::w 15::w 16:: .int .i64 n0:: .int .i64 n3::w 19::w 20:: .bool (decide (i5=1)):: .bool (decide (i1<0)):: .bool (decide (i2<0)):: .bool (decide (i4<0))::w 25::w 26::w 27::w 28::w 29::w 30::w 31::w 32::w 33::w 34::w 35::w 36::w 37::rest⟩ [.inRegion aw5 [6],.code tT1],cs)) (ans:=[]) (ls:=[]) (by kernel_rfl) trivial s5).1;have s7:=(ad7 (p:=twp) 3 (s:=(fr ⟨.slice b0 n0 c0:: .int .i64 i1:: .int .i64 i2:: .slice b3 n3 c3:: .int .i64 i4:: .int .i64 i5::w 6::w 7::w 8::w 9::w 10::w 11::w 12::w 13::w 14::w 15::w 16:: .int .i64 n0:: .int .i64 n3::w 19::w 20:: .bool (decide (i5=1)):: .bool (decide (i1<0)):: .bool (decide (i2<0)):: .bool (decide (i4<0))::w 25::w 26::w 27::w 28::w 29::w 30::w 31::w 32::w 33::w 34::w 35::w 36::w 37::rest⟩ [.inRegion aw5 [6],.code tT1],cs)) (s':=(fr ⟨.slice b0 n0 c0:: .int .i64 i1:: .int .i64 i2:: .slice b3 n3 c3:: .int .i64 i4:: .int .i64 i5::w 6::w 7::w 8::w 9::w 10::w 11::w 12::w 13::w 14::w 15::w 16:: .int .i64 n0:: .int .i64 n3::w 19::w 20:: .bool (decide (i5=1)):: .bool (decide (i1<0)):: .bool (decide (i2<0)):: .bool (decide (i4<0)):: .bool (decide ((n3:Int)<=8))::w 26::w 27::w 28::w 29::w 30::w 31::w 32::w 33::w 34::w 35::w 36::w 37::rest⟩ [.code (sL tT1),.code tT2],cs)) (ans:=[]) (ls:=[]) (by kernel_rfl) trivial s6).1;by_cases h5:i5=1
 ·subst h5;have s8:=(ad7 (p:=twp) 3 (s:=(fr ⟨.slice b0 n0 c0:: .int .i64 i1:: .int .i64 i2:: .slice b3 n3 c3:: .int .i64 i4:: .int .i64 1::w 6::w 7::w 8::w 9::w 10::w 11::w 12::w 13::w 14::w 15::w 16:: .int .i64 n0:: .int .i64 n3::w 19::w 20:: .bool (decide (1=1)):: .bool (decide (i1<0)):: .bool (decide (i2<0)):: .bool (decide (i4<0)):: .bool (decide ((n3:Int)<=8))::w 26::w 27::w 28::w 29::w 30::w 31::w 32::w 33::w 34::w 35::w 36::w 37::rest⟩ [.code (sL tT1),.code tT2],cs)) (s':=(fr ⟨.slice b0 n0 c0:: .int .i64 i1:: .int .i64 i2:: .slice b3 n3 c3:: .int .i64 i4:: .int .i64 1::w 6::w 7::w 8::w 9::w 10::w 11::w 12::w 13::w 14::w 15::w 16:: .int .i64 n0:: .int .i64 n3::w 19::w 20:: .bool (decide (1=1)):: .bool (decide (i1<0)):: .bool (decide (i2<0)):: .bool (decide (i4<0)):: .bool (decide ((n3:Int)<=8))::w 26::w 27::w 28::w 29::w 30::w 31::w 32::w 33::w 34::w 35::w 36::w 37::rest⟩ [.code (sL tT2),.code tT3],cs)) (ans:=[]) (ls:=[]) (by kernel_rfl) trivial s7).1;by_cases h8:(n3:Int)<=8
  ·exact ⟨b0,n0,c0,i1,i2,b3,n3,c3,i4,rfl,rfl,rfl,rfl,rfl,rfl,by omega⟩
  ·exfalso;rw [lm h8] at s8;have s9 := (ad7 (p := twp) 1 (s := (fr ⟨.slice b0 n0 c0 :: .int .i64 i1 :: .int .i64 i2 :: .slice b3 n3 c3 :: .int .i64 i4 :: .int .i64 1 :: w 6 :: w 7 :: w 8 :: w 9 :: w 10 :: w 11 :: w 12 :: w 13 :: w 14 :: w 15 :: w 16 :: .int .i64 n0 :: .int .i64 n3 :: w 19 :: w 20 :: .bool (decide (1 = 1)) :: .bool (decide (i1 < 0)) :: .bool (decide (i2 < 0)) :: .bool (decide (i4 < 0)) :: .bool false :: w 26 :: w 27 :: w 28 :: w 29 :: w 30 :: w 31 :: w 32 :: w 33 :: w 34 :: w 35 :: w 36 :: w 37 :: rest⟩ [.code (sL tT2), .code tT3], cs)) (s' := (fr ⟨.slice b0 n0 c0 :: .int .i64 i1 :: .int .i64 i2 :: .slice b3 n3 c3 :: .int .i64 i4 :: .int .i64 1 :: w 6 :: w 7 :: w 8 :: w 9 :: w 10 :: w 11 :: w 12 :: w 13 :: w 14 :: w 15 :: w 16 :: .int .i64 n0 :: .int .i64 n3 :: w 19 :: w 20 :: .bool (decide (1 = 1)) :: .bool (decide (i1 < 0)) :: .bool (decide (i2 < 0)) :: .bool (decide (i4 < 0)) :: .bool false :: w 26 :: w 27 :: w 28 :: w 29 :: w 30 :: w 31 :: w 32 :: w 33 :: w 34 :: w 35 :: w 36 :: w 37 :: rest⟩ [.code (.refuse "more than eight inks"), .code tT3], cs)) (ans := []) (ls := []) (by kernel_rfl) trivial s8).1;exact ad0 (p:=twp) (by kernel_rfl) s9
 ·exfalso;rw [lm h5] at s7;have s9 := (ad7 (p := twp) 1 (s := (fr ⟨.slice b0 n0 c0 :: .int .i64 i1 :: .int .i64 i2 :: .slice b3 n3 c3 :: .int .i64 i4 :: .int .i64 i5 :: w 6 :: w 7 :: w 8 :: w 9 :: w 10 :: w 11 :: w 12 :: w 13 :: w 14 :: w 15 :: w 16 :: .int .i64 n0 :: .int .i64 n3 :: w 19 :: w 20 :: .bool false :: .bool (decide (i1 < 0)) :: .bool (decide (i2 < 0)) :: .bool (decide (i4 < 0)) :: .bool (decide ((n3 : Int) ≤ 8)) :: w 26 :: w 27 :: w 28 :: w 29 :: w 30 :: w 31 :: w 32 :: w 33 :: w 34 :: w 35 :: w 36 :: w 37 :: rest⟩ [.code (sL tT1), .code tT2], cs)) (s' := (fr ⟨.slice b0 n0 c0 :: .int .i64 i1 :: .int .i64 i2 :: .slice b3 n3 c3 :: .int .i64 i4 :: .int .i64 i5 :: w 6 :: w 7 :: w 8 :: w 9 :: w 10 :: w 11 :: w 12 :: w 13 :: w 14 :: w 15 :: w 16 :: .int .i64 n0 :: .int .i64 n3 :: w 19 :: w 20 :: .bool false :: .bool (decide (i1 < 0)) :: .bool (decide (i2 < 0)) :: .bool (decide (i4 < 0)) :: .bool (decide ((n3 : Int) ≤ 8)) :: w 26 :: w 27 :: w 28 :: w 29 :: w 30 :: w 31 :: w 32 :: w 33 :: w 34 :: w 35 :: w 36 :: w 37 :: rest⟩ [.code (.refuse "more than one goroutine"), .code tT2], cs)) (ans := []) (ls := []) (by kernel_rfl) trivial s7).1;exact ad0 (p:=twp) (by kernel_rfl) s9
end Hid
namespace Hid
open Go Go.Proofs Go.RowKit Go.Conc
noncomputable def SHa:An:= .s (some (127,2))
noncomputable def c68:Code:=bV8 Try.prog 68
noncomputable def cW2:Code:=sR (sR c68)
noncomputable def lpW:Code:=bB (bB cW2)
namespace Ar
variable (a:Ar)
noncomputable def KV:Value:= .int .u64 4294967296
noncomputable def dShW:List Did:=[.sh (a.m+9) (some (127,2)),.sh (a.m+9) (some (127,2))]
noncomputable def cf8:List (FuncId×List Did):=[(67,[.mk (.extern 79),.mk .disable]),(67,[.mk (.extern 81)]),(85,[.mk (.extern 116),.rd .atomic ⟨a.m+9,0,none⟩ (.int .u64 0),.wr .atomic ⟨a.m+9,0,none⟩ KV]),(67,a.dShW),(67,[.mk (.extern 86),.mk (.read ⟨a.m+9,1,none⟩)]),(67,[.mk (.extern 80),.mk .enable])]
noncomputable def clo:Value:= .func (.func 68) #[] #[a.pt 9,a.pt 8,a.pt 0,a.pt 1,a.pt 2,a.pt 3,a.pt 4,a.pt 6]
noncomputable def tup0:Value:= .tuple #[]
noncomputable def FG:Frame:=fr (a.tmP (a.w 16) (.int .i64 0) (.bool true) tup0 a.clo (a.w 26) (a.w 27) (a.w 28) (a.w 29) (a.w 30) (a.w 31) (a.w 32) (a.w 33) (a.w 34) (a.w 35) (a.w 36) (a.w 37)) [.inRegion (rO (sR (bB (sL (sR (sR lp1)))))) [1],.inBlock 1,.code (sR (sR (sR lp1))),.inLoop lp1,.inBlock 0,.code cA6]
noncomputable def FP:Frame:=fr (a.tmP (a.w 16) (.int .i64 0) (.bool true) tup0 a.clo (a.w 26) (a.w 27) (a.w 28) (a.w 29) (a.w 30) (a.w 31) (a.w 32) (a.w 33) (a.w 34) (a.w 35) (a.w 36) (a.w 37)) [.inRegion (rO (sR (bB (sL (sR (sR lp1)))))) [],.inBlock 1,.code (sR (sR (sR lp1))),.inLoop lp1,.inBlock 0,.code cA6]
noncomputable def child:Frame:={ (default:Frame) with fn:=Try.prog.funcs.size,defers:=[{ target:= .fn (.func 68) #[a.pt 9,a.pt 8,a.pt 0,a.pt 1,a.pt 2,a.pt 3,a.pt 4,a.pt 6],args:=#[] }],mode:= .panicking [goexitEntry] }
noncomputable def gx:Frame:={ (default:Frame) with fn:=Try.prog.funcs.size,defers:=[],mode:= .panicking [goexitEntry] }
noncomputable def tmS (k x16 x30 x31 x32 x33 x34:Value):Array Value:=a.tmP x16 (.int .i64 1) (.bool false) tup0 a.clo (.int .i64 1) a.v3 (.int .i64 a.n3) k x30 x31 x32 x33 x34 (a.w 35) (a.w 36) (a.w 37)
noncomputable def SP (k x16 x30 x31 x32 x33 x34:Value):Frame:=fr (a.tmS k x16 x30 x31 x32 x33 x34) [.code lp2,.inLoop lp2,.inBlock 2,.code cA8]
end Ar
open Ar
theorem ca8 (a:Ar) (cs:List Frame):runG Try.prog true 147 (a.FA,cs) [[.v (.int .u64 0)],[SHa,SHa]]=some ((a.FG,cs),a.cf8):=by kernel_rfl
theorem go_P (a:Ar) (cs:List Frame):aW1 Try.prog true a.FG cs []=some (.spawn (G a.FP cs) (G a.child []),[]):=by kernel_rfl
theorem ca6 (a:Ar) (cs:List Frame):runG Try.prog true 23 (a.FP,cs) [[.v a.v3]]=some ((a.SP (.int .i64 0) (a.w 16) (a.w 30) (a.w 31) (a.w 32) (a.w 33) (a.w 34),cs),[(49,[.rd .plain ⟨a.m+3,0,none⟩ a.v3])]):=by kernel_rfl
namespace Ar
variable (a:Ar)
noncomputable def chV:Value:= .chan (some (a.m+7))
noncomputable def it2:List Item:=[.inLoop lp2,.inBlock 2,.code cA8]
noncomputable def SP1 (k x16:Value) (b:Bool) (x31 x32 x33 x34:Value):Frame:=fr (a.tmS k x16 (.bool b) x31 x32 x33 x34) (.inRegion (rO (sL lp2)) []:: .code (sR lp2)::it2)
noncomputable def bk3:Code:=bB (sL (sR (sR lp2)))
noncomputable def SS (k x34:Value):Frame:=fr (a.tmS k k (.bool true) k a.chV k x34) (.inRegion (rO (sR bk3)) [2]:: .inBlock 3:: .code (sR (sR (sR lp2)))::it2)
noncomputable def SS' (k x34:Value):Frame:=fr (a.tmS k k (.bool true) k a.chV k x34) (.inRegion (rO (sR bk3)) []:: .inBlock 3:: .code (sR (sR (sR lp2)))::it2)
noncomputable def rdC:List Did:=[.rd .plain ⟨a.m+8,0,none⟩ a.chV]
noncomputable def tmC (k x16 x30 x31 x32 x33 x34 x35:Value):Array Value:=a.tmP x16 (.int .i64 1) (.bool false) tup0 a.clo (.int .i64 1) a.v3 (.int .i64 a.n3) k x30 x31 x32 x33 x34 x35 (a.w 36) (a.w 37)
noncomputable def SC (k x16 x31 x32 x33 x34:Value):Frame:=fr (a.tmC k x16 (.bool false) x31 x32 x33 x34 a.chV) [.inRegion (rO (sL cA8)) [1],.code (sR cA8)]
noncomputable def SC' (k x16 x31 x32 x33 x34:Value):Frame:=fr (a.tmC k x16 (.bool false) x31 x32 x33 x34 a.chV) [.inRegion (rO (sL cA8)) [],.code (sR cA8)]
end Ar
theorem bS3 (a:Ar) (cs:List Frame) (k:Int) (x16 x30 x31 x32 x33 x34:Value):runG Try.prog true 3 (a.SP (.int .i64 k) x16 x30 x31 x32 x33 x34,cs) []=some ((a.SP1 (.int .i64 k) x16 (decide (k<(a.n3:Int))) x31 x32 x33 x34,cs),[]):=by kernel_rfl
theorem ca2 (a:Ar) (cs:List Frame) (k:Int) (x16 x31 x32 x33 x34:Value):runG Try.prog true 14 (a.SP1 (.int .i64 k) x16 true x31 x32 x33 x34,cs) [[.v a.chV]]=some ((a.SS (.int .i64 k) x34,cs),[(49,a.rdC)]):=by kernel_rfl
theorem b96 (a:Ar) (cs:List Frame) (k:Int) (x34:Value):aW1 Try.prog true (a.SS (.int .i64 k) x34) cs []=some (.comm (G (a.SS (.int .i64 k) x34) cs) #[scase (a.m+7) (.int .i64 k) (.tuple #[])] true .send,[]):=by kernel_rfl
theorem b95 (a:Ar) (k:Int) (x34:Value):(a.SS (.int .i64 k) x34).finish undef=a.SS' (.int .i64 k) x34:=by kernel_rfl
theorem ca0 (a:Ar) (cs:List Frame) (k:Int) (x34:Value):runG Try.prog true 7 (a.SS' (.int .i64 k) x34,cs) []=some ((a.SP (.int .i64 (IntKind.i64.wrap (k+1))) (.int .i64 k) (.bool true) (.int .i64 k) a.chV (.int .i64 k) (.int .i64 (IntKind.i64.wrap (k+1))),cs),[]):=by kernel_rfl
theorem b99 (a:Ar) (cs:List Frame) (k:Int) (x16 x31 x32 x33 x34:Value):runG Try.prog true 7 (a.SP1 (.int .i64 k) x16 false x31 x32 x33 x34,cs) [[.v a.chV]]=some ((a.SC (.int .i64 k) x16 x31 x32 x33 x34,cs),[(49,a.rdC)]):=by kernel_rfl
theorem b60 (a:Ar) (cs:List Frame) (k:Int) (x16 x31 x32 x33 x34:Value) (s r:Nat):oneG Try.prog true (a.SC (.int .i64 k) x16 x31 x32 x33 x34,cs) [.o (.chan 0 #[] false s r false)]=some ((a.SC' (.int .i64 k) x16 x31 x32 x33 x34,cs),[.gt (a.m+7) (.chan 0 #[] false s r false),.st (a.m+7) (.chan 0 #[] true s r false)]):=by kernel_rfl
end Hid
namespace Hid
open Go Go.Proofs Go.RowKit Go.Conc
def updF (y:Nat->Value) (s:Nat) (v:Value):Nat->Value:=fun j=>if j=s then v else y j
noncomputable def opsW:Array Oper:=rO (sR (bB (sR (sR lpW))))
namespace Ar
variable (a:Ar)
noncomputable def tmW (x8 x9 x10 x11 x12:Value) (y:Nat->Value):Array Value:=⟨a.pt 9::a.pt 8::a.pt 0::a.pt 1::a.pt 2::a.pt 3::a.pt 4::a.pt 6::x8::x9::x10::x11::x12::y 13::y 14::y 15::y 16::y 17::y 18::y 19::y 20::y 21::y 22::y 23::y 24::[]⟩
noncomputable def dfr:List Deferred:=[{ target:= .fn (.func 69) #[],args:=#[a.pt 9] }]
noncomputable def wf (tm:Array Value) (k:List Item):Frame:={ fn:=68,tmps:=tm,todo:=k,defers:=a.dfr,mode:= .run,kind:= .deferred }
noncomputable def itW:List Item:=[.inLoop lpW,.inBlock 0]
noncomputable def WRc (x8 x10 x11 x12:Value) (y:Nat->Value):Frame:=a.wf (a.tmW x8 a.chV x10 x11 x12 y) (.inRegion (rO (sL lpW)) [0,1]:: .code (sR lpW)::itW)
noncomputable def WR1 (x8 r x11 x12:Value) (y:Nat->Value):Frame:=a.wf (a.tmW x8 a.chV r x11 x12 y) (.inRegion (rO (sL lpW)) [1]:: .code (sR lpW)::itW)
noncomputable def WJ (k:Value) (y:Nat->Value):Frame:=a.wf (a.tmW k a.chV (.tuple #[k,.bool true]) (.bool true) k y) (.code (sR (bB (sR (sR lpW)))):: .inBlock 1::itW)
noncomputable def WO (k:Value) (y:Nat->Value) (l:List Nat):Frame:=a.wf (a.tmW k a.chV (.tuple #[k,.bool true]) (.bool true) k y) (.inRegion opsW l:: .inBlock 1::itW)
noncomputable def z0:Value:= .int .i64 0
noncomputable def WX (x8 x12:Value) (y:Nat->Value):Frame:=a.wf (a.tmW x8 a.chV (.tuple #[z0,.bool false]) (.bool false) x12 y) []
end Ar
open Ar
theorem ca9 (a:Ar):runG Try.prog false 13 (a.child,[]) [[.v a.chV]]=some ((a.WRc undef undef undef undef (fun _=>undef),[gx]),[(68,a.rdC)]):=by kernel_rfl
theorem bS7 (a:Ar) (x8 x10 x11 x12:Value) (y:Nat->Value):aW1 Try.prog false (a.WRc x8 x10 x11 x12 y) [gx] []=some (.comm (G (a.WRc x8 x10 x11 x12 y) [gx]) #[rcase (a.m+7) z0] true (.recv true),[]):=by kernel_rfl
theorem cf0 (a:Ar) (x8 x10 x11 x12 r:Value) (y:Nat->Value):(a.WRc x8 x10 x11 x12 y).finish r=a.WR1 x8 r x11 x12 y:=by kernel_rfl
theorem ca7 (a:Ar) (k:Int) (x8 x11 x12:Value) (y:Nat->Value):runG Try.prog false 11 (a.WR1 x8 (.tuple #[.int .i64 k,.bool true]) x11 x12 y,[gx]) []=some ((a.WJ (.int .i64 k) y,[gx]),[]):=by kernel_rfl
theorem ca4 (a:Ar) (x8 x11 x12:Value) (y:Nat->Value):runG Try.prog false 5 (a.WR1 x8 (.tuple #[z0,.bool false]) x11 x12 y,[gx]) []=some ((a.WX x8 x12 y,[gx]),[]):=by kernel_rfl
theorem bW7:sR (bB (sR (sR lpW))) = .region 4 opsW true:=by kernel_rfl
theorem op0_W (a:Ar) (k:Value) (y:Nat->Value) (l:List Nat):oneG Try.prog false (a.WO k y (0::l),[gx]) [.v a.V]=some ((a.WO k (updF y 13 a.V) l,[gx]),[.rd .plain ⟨a.m+6,0,none⟩ a.V]):=by kernel_rfl
theorem op1_W (a:Ar) (k:Value) (y:Nat->Value) (l:List Nat):oneG Try.prog false (a.WO k y (1::l),[gx]) []=some ((a.WO k (updF y 14 k) l,[gx]),[]):=by kernel_rfl
theorem op2_W (a:Ar) (k:Value) (y:Nat->Value) (l:List Nat):oneG Try.prog false (a.WO k y (2::l),[gx]) [.v a.v0]=some ((a.WO k (updF y 15 a.v0) l,[gx]),[.rd .plain ⟨a.m+0,0,none⟩ a.v0]):=by kernel_rfl
theorem op3_W (a:Ar) (k:Value) (y:Nat->Value) (l:List Nat):oneG Try.prog false (a.WO k y (3::l),[gx]) [.v (.int .i64 a.i1)]=some ((a.WO k (updF y 16 (.int .i64 a.i1)) l,[gx]),[.rd .plain ⟨a.m+1,0,none⟩ (.int .i64 a.i1)]):=by kernel_rfl
theorem op4_W (a:Ar) (k:Value) (y:Nat->Value) (l:List Nat):oneG Try.prog false (a.WO k y (4::l),[gx]) [.v (.int .i64 a.i2)]=some ((a.WO k (updF y 17 (.int .i64 a.i2)) l,[gx]),[.rd .plain ⟨a.m+2,0,none⟩ (.int .i64 a.i2)]):=by kernel_rfl
theorem op5_W (a:Ar) (k:Value) (y:Nat->Value) (l:List Nat):oneG Try.prog false (a.WO k y (5::l),[gx]) [.v a.v3]=some ((a.WO k (updF y 18 a.v3) l,[gx]),[.rd .plain ⟨a.m+3,0,none⟩ a.v3]):=by kernel_rfl
theorem op6_W (a:Ar) (k:Value) (y:Nat->Value) (l:List Nat):oneG Try.prog false (a.WO k y (6::l),[gx]) []=some ((a.WO k (updF y 19 k) l,[gx]),[]):=by kernel_rfl
theorem op8_W (a:Ar) (k:Value) (ad:Addr) (v:Value) (y:Nat->Value) (l:List Nat):oneG Try.prog false (a.WO k (updF y 20 (.pointer (some ad))) (8::l),[gx]) [.v v]=some ((a.WO k (updF (updF y 20 (.pointer (some ad))) 21 v) l,[gx]),[.rd .plain ad v]):=by kernel_rfl
theorem op9_W (a:Ar) (k:Value) (y:Nat->Value) (l:List Nat):oneG Try.prog false (a.WO k y (9::l),[gx]) [.v (.int .i64 a.i4)]=some ((a.WO k (updF y 22 (.int .i64 a.i4)) l,[gx]),[.rd .plain ⟨a.m+4,0,none⟩ (.int .i64 a.i4)]):=by kernel_rfl
theorem cb8 (a:Ar) (k v:Value) (y:Nat->Value) (l:List Nat):oneG Try.prog false (a.WO k (updF (updF (updF (updF (updF y 15 a.v0) 16 (.int .i64 a.i1)) 17 (.int .i64 a.i2)) 21 v) 22 (.int .i64 a.i4)) (10::l),[gx]) []=some ((Frame.enter Try.prog 70 #[a.v0,.int .i64 a.i1,.int .i64 a.i2,v,.int .i64 a.i4] .normal,[a.WO k (updF (updF (updF (updF (updF y 15 a.v0) 16 (.int .i64 a.i1)) 17 (.int .i64 a.i2)) 21 v) 22 (.int .i64 a.i4)) (10::l),gx]),[]):=by kernel_rfl
theorem b07 (a:Ar) (k v:Value) (y:Nat->Value) (l:List Nat):(a.WO k y (10::l)).finish v=a.WO k (updF y 23 v) l:=by kernel_rfl
theorem cb7 (a:Ar) (k:Value) (y:Nat->Value):runG Try.prog false 5 (a.WO k y [],[gx]) []=some ((a.WRc k (.tuple #[k,.bool true]) (.bool true) k y,[gx]),[]):=by kernel_rfl
end Hid
namespace Hid
open Go Go.Proofs Go.RowKit Go.Conc
namespace Ar
variable (a:Ar)
noncomputable def itT:List Item:=[.inLoop bv3,.inBlock 2,.code bY1]
noncomputable def TB1 (k x26:Value) (b:Bool) (x31 x33 x34 x35:Value):Frame:=fr (a.tmT x26 k (.bool b) x31 x33 x34 x35) (.inRegion cb6 []:: .code (sR bv3)::itT)
noncomputable def TO (k x26 x31 x33 x34 x35:Value) (l:List Nat):Frame:=fr (a.tmT x26 k (.bool true) x31 x33 x34 x35) (.inRegion bC3 l:: .code (sR (sR (sR bv3)))::itT)
noncomputable def TR0 (k x26 x31 x33 x34 x35:Value):Frame:={ fn:=49,tmps:=(a.tmT x26 k (.bool false) x31 x33 x34 x35).setIfInBounds 12 a.V,todo:=[.code .ret],defers:=[],mode:= .returning,kind:= .normal }
end Ar
open Ar
theorem bS4 (a:Ar) (cs:List Frame) (k:Int) (x26 x30 x31 x33 x34 x35:Value):runR twp true 3 (a.TB k x26 x30 x31 x33 x34 x35,cs) []=some ((a.TB1 (.int .i64 k) x26 (decide (k<(a.n3:Int))) x31 x33 x34 x35,cs),[]):=by kernel_rfl
theorem ca5 (a:Ar) (cs:List Frame) (k:Int) (x26 x31 x33 x34 x35:Value):runR twp true 6 (a.TB1 (.int .i64 k) x26 true x31 x33 x34 x35,cs) []=some ((a.TO (.int .i64 k) x26 x31 x33 x34 x35 [0,1,2,3,4],cs),[]):=by kernel_rfl
theorem ld_T (a:Ar) (cs:List Frame) (k x31 x33 x34 x35 v:Value) (ad:Addr):runR twp true 1 (a.TO k (.pointer (some ad)) x31 x33 x34 x35 [1,2,3,4],cs) [[.v v]]=some ((a.TO k (.pointer (some ad)) v x33 x34 x35 [2,3,4],cs),[(49,[.rd .plain ad v])]):=by kernel_rfl
theorem cg1 (a:Ar) (cs:List Frame) (k x26 v x33 x34 x35:Value):runR twp true 1 (a.TO k x26 v x33 x34 x35 [2,3,4],cs) []=some ((Frame.enter twp 70 #[a.v0,.int .i64 a.i1,.int .i64 a.i2,v,.int .i64 a.i4] .normal,a.TO k x26 v x33 x34 x35 [2,3,4]::cs),[]):=by kernel_rfl
theorem b49 (args:Array Value):Frame.enter twp 70 args .normal=Frame.enter Try.prog 70 args .normal:=by kernel_rfl
theorem ret_T (a:Ar) (k x26 v x33 x34 x35 r:Value):(a.TO k x26 v x33 x34 x35 [2,3,4]).finish r=a.TO k x26 v r x34 x35 [3,4]:=by kernel_rfl
theorem ca3 (a:Ar) (cs:List Frame) (k:Int) (x26 x31 x33 x34 x35:Value):runR twp true 6 (a.TO (.int .i64 k) x26 x31 x33 x34 x35 [],cs) []=some ((a.TB (IntKind.i64.wrap (k+1)) x26 (.bool true) x31 x33 (.int .i64 (IntKind.i64.wrap (k+1))) x35,cs),[]):=by kernel_rfl
theorem ca1 (a:Ar) (cs:List Frame) (k:Int) (x26 x31 x33 x34 x35:Value):runR twp true 9 (a.TB1 (.int .i64 k) x26 false x31 x33 x34 x35,cs) []=some ((a.TR0 (.int .i64 k) x26 x31 x33 x34 x35,cs),[]):=by kernel_rfl
theorem out_T (a:Ar) (x:Frame) (cs:List Frame) (k x26 x31 x33 x34 x35:Value):oneG twp true (a.TR0 k x26 x31 x33 x34 x35,x::cs) []=some ((x.finish a.V,cs),[]):=by kernel_rfl
theorem lt8' {k n:Nat}(h:k<n) (h8:n<=8):k=0\/k=1\/k=2\/k=3\/k=4\/k=5\/k=6\/k=7:=by omega
theorem op7_W (a:Ar) (ad:Addr) (hb:a.b3=some ad) (k:Nat) (h:k<a.n3) (h8:a.n3<=8) (y:Nat->Value) (l:List Nat):oneG Try.prog false (a.WO (.int .i64 k) (updF (updF y 18 a.v3) 19 (.int .i64 k)) (7::l),[gx]) []=some ((a.WO (.int .i64 k) (updF (updF (updF y 18 a.v3) 19 (.int .i64 k)) 20 (.pointer (some (ad.add (k*1))))) l,[gx]),[]):=by
 obtain ⟨b0,n0,c0,i1,i2,b3,n3,c3,i4,m,w,rest⟩:=a;simp only at hb h8 h
 subst hb;rcases lt8' h h8 with rfl | rfl | rfl | rfl | rfl | rfl | rfl | rfl<;>rcases lt9 h8 with rfl | rfl | rfl | rfl | rfl | rfl | rfl | rfl | rfl<;>first | (exact absurd h (by decide)) | kernel_rfl
theorem bT0 (a:Ar) (k:Nat) (h:k<a.n3) (h8:a.n3<=8) (y:Nat->Value) (l:List Nat):oneG Try.prog false (a.WO (.int .i64 k) (updF (updF y 13 a.V) 14 (.int .i64 k)) (11::l),[gx]) []=some ((a.WO (.int .i64 k) (updF (updF (updF y 13 a.V) 14 (.int .i64 k)) 24 (.pointer (some ((⟨a.m+5,0,none⟩:Addr).add (k*1))))) l,[gx]),[]):=by
 obtain ⟨b0,n0,c0,i1,i2,b3,n3,c3,i4,m,w,rest⟩:=a;simp only at h8 h
 rcases lt8' h h8 with rfl | rfl | rfl | rfl | rfl | rfl | rfl | rfl<;>rcases lt9 h8 with rfl | rfl | rfl | rfl | rfl | rfl | rfl | rfl | rfl<;>first | (exact absurd h (by decide)) | kernel_rfl
theorem ix_T (a:Ar) (ad:Addr) (hb:a.b3=some ad) (k:Nat) (h:k<a.n3) (h8:a.n3<=8) (cs:List Frame) (x26 x31 x33 x34 x35:Value):runR twp true 1 (a.TO (.int .i64 k) x26 x31 x33 x34 x35 [0,1,2,3,4],cs) []=some ((a.TO (.int .i64 k) (.pointer (some (ad.add (k*1)))) x31 x33 x34 x35 [1,2,3,4],cs),[]):=by
 obtain ⟨b0,n0,c0,i1,i2,b3,n3,c3,i4,m,w,rest⟩:=a;simp only at hb h8 h
 subst hb;rcases lt8' h h8 with rfl | rfl | rfl | rfl | rfl | rfl | rfl | rfl<;>rcases lt9 h8 with rfl | rfl | rfl | rfl | rfl | rfl | rfl | rfl | rfl<;>first | (exact absurd h (by decide)) | kernel_rfl
theorem iy_T (a:Ar) (k:Nat) (h:k<a.n3) (h8:a.n3<=8) (cs:List Frame) (x26 x31 x33 x34 x35:Value):runR twp true 1 (a.TO (.int .i64 k) x26 x31 x33 x34 x35 [3,4],cs) []=some ((a.TO (.int .i64 k) x26 x31 x33 x34 (.pointer (some ((⟨a.m+5,0,none⟩:Addr).add (k*1)))) [4],cs),[]):=by
 obtain ⟨b0,n0,c0,i1,i2,b3,n3,c3,i4,m,w,rest⟩:=a;simp only at h8 h
 rcases lt8' h h8 with rfl | rfl | rfl | rfl | rfl | rfl | rfl | rfl<;>rcases lt9 h8 with rfl | rfl | rfl | rfl | rfl | rfl | rfl | rfl | rfl<;>first | (exact absurd h (by decide)) | kernel_rfl
end Hid
namespace Hid
open Go Go.Proofs Go.RowKit Go.Conc
noncomputable def aft (n:Nat) (s:St) (ans:List (List An)):St:=match runG Try.prog true n s ans with
 | some (s',_)=>s'
 | none=>s
namespace Ar
variable (a:Ar) (x:Frame) (xs:List Frame) (k:Int) (g16 g31 g32 g33 g34:Value)
noncomputable def sV (k:Int):An:= .v (.int .u64 k)
noncomputable def s0:St:=(a.SC' (.int .i64 k) g16 g31 g32 g33 g34,x::xs)
noncomputable def sW1:St:=aft 27 (a.s0 x xs k g16 g31 g32 g33 g34) []
noncomputable def sA:St:=aft 1 (a.sW1 x xs k g16 g31 g32 g33 g34) [[sV 4294967296]]
noncomputable def sB:St:=aft 1 (a.sW1 x xs k g16 g31 g32 g33 g34) [[sV 0]]
noncomputable def sW2:St:=aft 48 (a.sA x xs k g16 g31 g32 g33 g34) []
noncomputable def sC:St:=aft 1 (a.sW2 x xs k g16 g31 g32 g33 g34) [[SHa,.b false,sV 4294967296]]
noncomputable def sD:St:=aft 1 (a.sW2 x xs k g16 g31 g32 g33 g34) [[SHa,.b false,sV 0]]
noncomputable def sW3:St:=aft 44 (a.sC x xs k g16 g31 g32 g33 g34) [[SHa,SHa]]
noncomputable def sE:St:=aft 1 (a.sW3 x xs k g16 g31 g32 g33 g34) [[.v (.int .u32 1)]]
noncomputable def rdW (v:Int):Did:= .rd .atomic ⟨a.m+9,0,none⟩ (.int .u64 v)
noncomputable def endL:List (FuncId×List Did):=[(71,[.mk (.extern 80),.mk .enable]),(71,a.dShW),(71,[.mk (.extern 92),.mk (.acquire ⟨a.m+9,0,none⟩)]),(49,[.rd .plain ⟨a.m+6,0,none⟩ a.V])]
end Ar
open Ar
theorem bp4 (a:Ar) (x:Frame) (xs:List Frame) (k:Int) (g16 g31 g32 g33 g34:Value) :
  runG Try.prog true 27 (a.s0 x xs k g16 g31 g32 g33 g34) []=some (a.sW1 x xs k g16 g31 g32 g33 g34,[(71,[.mk (.extern 79),.mk .disable])])/\
  oneG Try.prog true (a.sW1 x xs k g16 g31 g32 g33 g34) [sV 4294967296]=some (a.sA x xs k g16 g31 g32 g33 g34,[.mk (.extern 117),a.rdW 4294967296])/\
  oneG Try.prog true (a.sW1 x xs k g16 g31 g32 g33 g34) [sV 0]=some (a.sB x xs k g16 g31 g32 g33 g34,[.mk (.extern 117),a.rdW 0])/\
  runG Try.prog true 48 (a.sA x xs k g16 g31 g32 g33 g34) []=some (a.sW2 x xs k g16 g31 g32 g33 g34,[])/\
  oneG Try.prog true (a.sW2 x xs k g16 g31 g32 g33 g34) [SHa,.b false,sV 4294967296]=some (a.sC x xs k g16 g31 g32 g33 g34,[.mk (.extern 119),.sh (a.m+9) (some (127,2)),.fz ⟨a.m+9,0,none⟩ false,a.rdW 4294967296,.wr .atomic ⟨a.m+9,0,none⟩ (.int .u64 4294967297)])/\
  oneG Try.prog true (a.sW2 x xs k g16 g31 g32 g33 g34) [SHa,.b false,sV 0]=some (a.sD x xs k g16 g31 g32 g33 g34,[.mk (.extern 119),.sh (a.m+9) (some (127,2)),.fz ⟨a.m+9,0,none⟩ false,a.rdW 0])/\
  runG Try.prog true 44 (a.sC x xs k g16 g31 g32 g33 g34) [[SHa,SHa]]=some (a.sW3 x xs k g16 g31 g32 g33 g34,[(71,a.dShW),(71,[.mk (.extern 95),.mk (.write ⟨a.m+9,1,none⟩)])])/\
  oneG Try.prog true (a.sW3 x xs k g16 g31 g32 g33 g34) [.v (.int .u32 1)]=some (a.sE x xs k g16 g31 g32 g33 g34,[.mk (.extern 96),.mk .disable,.rd .atomic ⟨a.m+9,1,none⟩ (.int .u32 1),.wr .atomic ⟨a.m+9,1,none⟩ (.int .u32 0),.mk .enable])/\
  aW1 Try.prog true (a.sW3 x xs k g16 g31 g32 g33 g34).1 (a.sW3 x xs k g16 g31 g32 g33 g34).2 [.v (.int .u32 0)]=some (.still { G (a.sW3 x xs k g16 g31 g32 g33 g34).1 (a.sW3 x xs k g16 g31 g32 g33 g34).2 with status:= .blocked },[.mk (.extern 96),.mk .disable,.rd .atomic ⟨a.m+9,1,none⟩ (.int .u32 0)])/\
  runG Try.prog true 65 (a.sB x xs k g16 g31 g32 g33 g34) [[SHa,SHa],[.v a.V]]=some ((x.finish a.V,xs),a.endL)/\
  runG Try.prog true 91 (a.sD x xs k g16 g31 g32 g33 g34) [[sV 0],[SHa,SHa],[.v a.V]]=some ((x.finish a.V,xs),(87,[.mk (.extern 117),a.rdW 0])::a.endL)/\
  runG Try.prog true 52 (a.sE x xs k g16 g31 g32 g33 g34) [[sV 0],[SHa,SHa],[.v a.V]]=some ((x.finish a.V,xs),(87,[.mk (.extern 117),a.rdW 0])::a.endL):=by
 refine ⟨?_,?_,?_,?_,?_,?_,?_,?_,?_,?_,?_,?_⟩<;>kernel_rfl
end Hid
namespace Hid
open Go Go.Proofs Go.RowKit Go.Conc
def isMk:Did->Bool
 | .mk _=>true
 | _=>false
def aK4 (P:Program):Nat->Nat->St->Bool
 | 0,_,_=>false
 | n+1,d,s=>match aW1 P false s.1 s.2 [] with
  | some (.go g,l)=>l.all isMk&&((seen P s.1.fn (esOf l).toArray).all Event.mute&&match g.status with
   | .finished=>deafBehind d (seen P s.1.fn (esOf l).toArray)==0
   | _=>match toS g with
    | some s'=>aK4 P n (deafBehind d (seen P s.1.fn (esOf l).toArray)) s'
    | none=>false)
  | _=>false
theorem aX5:∀ {l:List Did},l.all isMk=true->∀ w,Fits l w/\wOf l w=w
 | [],_,w=>⟨trivial,rfl⟩
 | d::l,h,w=>by
  simp only [lad,lu] at h;cases d with
  | mk m=>exact ⟨⟨trivial,(aX5 h.2 w).1⟩,(aX5 h.2 w).2⟩
  | _=>exact absurd h.1 (by simp [isMk])
theorem aX0 {P:Program}:∀ {n d:Nat}{s:St},aK4 P n d s=true->QuitsD P n d (G s.1 s.2)
 | 0,_,_,h=>by cases h
 | n+1,d,s,h=>by
  unfold aK4 at h;split at h
  ·rename_i g l hs;simp only [lu] at h;obtain ⟨h1,h2,h3⟩:=h;have hst:∀ w,stepG P false (G s.1 s.2) w = .go g w (seen P s.1.fn (esOf l).toArray):=fun w=>by
    rw [ai0 hs (aX5 h1 w).1];simp only [SA.step,(aX5 h1 w).2]
   refine .inr ⟨rfl,g,_,fun e he=>?_,hst,?_⟩
   ·have:=uY.1 h2
    obtain ⟨i,hi,rfl⟩:=xW.1 he;exact this i hi
   ·split at h3
    ·rename_i hf;have hd:deafBehind d (seen P s.1.fn (esOf l).toArray)=0:=by simpa using h3
     cases n with
     | zero=>exact ⟨hf,hd⟩
     | succ n=>exact .inl ⟨hf,hd⟩
    ·split at h3
     ·rename_i s' hs';rw [bQ8 hs'];exact aX0 h3
     ·cases h3
  ·cases h
noncomputable def afw (n:Nat) (s:St) (ans:List (List An)):St:=match runG Try.prog false n s ans with
 | some (s',_)=>s'
 | none=>s
namespace Ar
variable (a:Ar) (x8 x12:Value) (y:Nat->Value)
noncomputable def u0:St:=afw 17 (a.WX x8 x12 y,[gx]) [[SHa,SHa]]
noncomputable def u1:St:=afw 1 (a.u0 x8 x12 y) []
noncomputable def u2:St:=afw 3 (a.u1 x8 x12 y) []
noncomputable def u3:St:=afw 1 (a.u2 x8 x12 y) []
noncomputable def u4:St:=afw 34 (a.u3 x8 x12 y) []
noncomputable def ua:St:=afw 1 (a.u4 x8 x12 y) [[sV 4294967296]]
noncomputable def ub:St:=afw 1 (a.u4 x8 x12 y) [[sV 4294967297]]
noncomputable def u5:St:=afw 103 (a.ub x8 x12 y) []
noncomputable def u6:St:=afw 1 (a.u5 x8 x12 y) [[sV 1]]
noncomputable def u7:St:=afw 20 (a.u6 x8 x12 y) []
noncomputable def u8:St:=afw 1 (a.u7 x8 x12 y) []
noncomputable def u9:St:=afw 27 (a.u8 x8 x12 y) []
noncomputable def uc:St:=afw 1 (a.u9 x8 x12 y) [[.v (.int .u32 0)]]
noncomputable def wrW (v:Int):Did:= .wr .atomic ⟨a.m+9,0,none⟩ (.int .u64 v)
end Ar
open Ar
theorem bu7 (a:Ar) (x8 x12:Value) (y:Nat->Value) :
  runG Try.prog false 17 (a.WX x8 x12 y,[gx]) [[SHa,SHa]]=some (a.u0 x8 x12 y,[(67,a.dShW)])/\
  oneG Try.prog false (a.u0 x8 x12 y) []=some (a.u1 x8 x12 y,[.mk (.extern 78),.mk (.releaseMerge ⟨a.m+9,0,none⟩)])/\
  runG Try.prog false 3 (a.u1 x8 x12 y) []=some (a.u2 x8 x12 y,[])/\
  oneG Try.prog false (a.u2 x8 x12 y) []=some (a.u3 x8 x12 y,[.mk (.extern 79),.mk .disable])/\
  runG Try.prog false 34 (a.u3 x8 x12 y) []=some (a.u4 x8 x12 y,[(67,[.mk (.extern 81)])])/\
  oneG Try.prog false (a.u4 x8 x12 y) [sV 4294967296]=some (a.ua x8 x12 y,[.mk (.extern 116),a.rdW 4294967296,a.wrW 0])/\
  oneG Try.prog false (a.u4 x8 x12 y) [sV 4294967297]=some (a.ub x8 x12 y,[.mk (.extern 116),a.rdW 4294967297,a.wrW 1])/\
  aK4 Try.prog 120 1 (a.ua x8 x12 y)=true/\
  runG Try.prog false 103 (a.ub x8 x12 y) []=some (a.u5 x8 x12 y,[])/\
  oneG Try.prog false (a.u5 x8 x12 y) [sV 1]=some (a.u6 x8 x12 y,[.mk (.extern 117),a.rdW 1])/\
  runG Try.prog false 20 (a.u6 x8 x12 y) []=some (a.u7 x8 x12 y,[])/\
  oneG Try.prog false (a.u7 x8 x12 y) []=some (a.u8 x8 x12 y,[.mk (.extern 118),a.wrW 0])/\
  runG Try.prog false 27 (a.u8 x8 x12 y) []=some (a.u9 x8 x12 y,[])/\
  oneG Try.prog false (a.u9 x8 x12 y) [.v (.int .u32 0)]=some (a.uc x8 x12 y,[.mk (.extern 90),.mk .disable,.rd .atomic ⟨a.m+9,1,none⟩ (.int .u32 0),.wr .atomic ⟨a.m+9,1,none⟩ (.int .u32 1),.mk .enable])/\
  aK4 Try.prog 60 1 (a.uc x8 x12 y)=true/\mayWake Try.prog (G (a.u9 x8 x12 y).1 (a.u9 x8 x12 y).2)=true:=by
 refine ⟨?_,?_,?_,?_,?_,?_,?_,?_,?_,?_,?_,?_,?_,?_,?_,?_⟩<;>kernel_rfl
end Hid
namespace Hid
open Go Go.Proofs Go.RowKit Go.Conc Ar
set_option maxRecDepth 100000
noncomputable def bxOf (a:Ar) (b:Nat):Option Obj:=
 if b=a.m+0 then some (.cells #[a.v0] 22 (0,0)) else if b=a.m+1 then some (.cells #[.int .i64 a.i1] 3 (0,0)) else if b=a.m+2 then some (.cells #[.int .i64 a.i2] 3 (0,0)) else
 if b=a.m+3 then some (.cells #[a.v3] 46 (0,0)) else if b=a.m+4 then some (.cells #[.int .i64 a.i4] 3 (0,0)) else if b=a.m+6 then some (.cells #[a.V] 90 (0,0)) else if b=a.m+8 then some (.cells #[a.chV] 117 (0,0)) else none
def PXg (a:Ar) (x:Frame) (xs:List Frame) (d:Nat) (s:St):Prop:=
 d=1/\∃ n ans ls,runG Try.prog true n s ans=some ((x.finish a.V,xs),ls)/\(ls=a.endL\/ls=(87,[.mk (.extern 117),a.rdW 0])::a.endL)
noncomputable def env (a:Ar) (x:Frame) (xs:List Frame) (Shun:Loc->Prop) (N:Nat):Env where
 P:=Try.prog
 A:={ Bx:=fun b=>∃ o,bxOf a b=some o,Wg:=a.m+9,Ch:=a.m+7,Shun,n:=N }
 bx:=bxOf a
 tW:=127
 n3:=a.n3
 Low:=a.m+10
 item:=fun k=> .int .i64 k
 PX:=fun _ d s=>PXg a x xs d s
section
variable {E:Env}{nx:Nat}{ph:Ph}
def dfold (P:Program):Nat->List (FuncId×List Did)->Nat
 | d,[]=>d
 | d,(f,l)::r=>dfold P (deafBehind d (seen P f (esOf l).toArray)) r
def PQ (E:Env):List (FuncId×List Did)->Prop
 | []=>True
 | (f,l)::r=>(∀ w,FB E.bx w->WgL E.A.Wg E.tW w->Fits l w/\wOf l w=w)/\(∀ e∈seen E.P f (esOf l).toArray,Ev0 E.A E.Low e)/\PQ E r
theorem PS.run:∀ (n:Nat) {d:Nat}{s s':St}{ans:List (List An)}{ls:List (FuncId×List Did)},runG E.P true n s ans=some (s',ls)->PQ E ls->PS E nx ph (dfold E.P d ls) (G s'.1 s'.2)->PS E nx ph d (G s.1 s.2):=by
 intro n;induction n with
 | zero=>intro d s s' ans ls h hq k; cases h; exact k
 | succ n ih=>
  intro d s s' ans ls h hq k;obtain ⟨s1,an,l,ans',r,h1,h2,h3⟩:=aI0 h;rcases h3 with ⟨rfl,rfl⟩ | rfl
  ·exact .quiet (es:=#[]) (fun w _ _=>ab4 h1 (w:=w) trivial) (by simp) (ih h2 hq k)
  ·refine .quiet (es:=seen E.P s.1.fn (esOf l).toArray) (fun w hb hw=>?_) hq.2.1 (ih h2 hq.2.2 k);obtain ⟨hf,hw'⟩:=hq.1 w hb hw;rw [ab4 h1 hf,hw']
theorem bn7 {A:Area}{Low:Nat}{m:Mark}(h:(MemAct.mark m).touch?=none) (hr:∀ x,m≠.release x) (hl:(MemAct.mark m).low Low):Ev0 A Low ⟨.mark m,false,true⟩:=
 ⟨⟨fun b hb=>(by rw [show MemAct.ofEvent ⟨.mark m,false,true⟩ = .mark m from rfl,h] at hb; cases hb),fun e=>hr _ (MemAct.mark.inj e)⟩,hl⟩
theorem aN6 {A:Area}{Low:Nat}(hl:A.Wg<Low) (i:Nat) (wr:Bool):Ev0 A Low ⟨.cell ⟨A.Wg,i,none⟩,wr,true⟩:=by
 have e:MemAct.ofEvent ⟨.cell ⟨A.Wg,i,none⟩,wr,true⟩ = .access ⟨.cell ⟨A.Wg,i,none⟩,wr,true⟩:=by cases wr<;>rfl
 refine ⟨⟨fun b hb=>?_,by rw [e]; simp⟩,by rw [e]; exact hl⟩;rw [e] at hb;simp only [MemAct.touch?,Option.some.injEq] at hb;subst hb;exact .inr (.inl ⟨_,rfl,rfl,by simp⟩)
theorem cf6 {A:Area}{Low b:Nat}(hb:A.Bx b) (hl:b<Low):Ev0 A Low ⟨.cell ⟨b,0,none⟩,false,false⟩:=by
 refine ⟨⟨fun x hx=>?_,by simp [MemAct.ofEvent]⟩,hl⟩;simp only [MemAct.ofEvent,MemAct.touch?,Option.some.injEq] at hx;subst hx;exact .inl ⟨_,rfl,hb,rfl,rfl⟩
theorem cf4 {A:Area}{Low b:Nat}(hb:A.Bx b) (hl:b<Low):Evn A Low ⟨.cell ⟨b,0,none⟩,false,false⟩:=by
 refine ⟨⟨fun x hx=>?_,by simp [MemAct.ofEvent]⟩,hl⟩;simp only [MemAct.ofEvent,MemAct.touch?,Option.some.injEq] at hx;subst hx;exact .inr (.inl ⟨_,rfl,hb,rfl,rfl⟩)
end
theorem cell_of {w:World}{b:Nat}{v:Value}{T:TypeId}(h:w.heap[b]?=some (.cells #[v] T (0,0))):w.cell? ⟨b,0,none⟩=some v:=by
 simp [World.cell?,h]
theorem af6 {Wg:Nat}{tW:TypeId}{w:World}{s m:Int}(h:WgS Wg tW w s m):w.cell? ⟨Wg,0,none⟩=some (.int .u64 s)/\w.cell? ⟨Wg,1,none⟩=some (.int .u32 m)/\w.shape? Wg=some (tW,2)/\∀ i,w.frozen? ⟨Wg,i,none⟩=false:=by
 unfold WgS at h;refine ⟨?_,?_,?_,fun i=>?_⟩
 ·simp [World.cell?,h]
 ·simp [World.cell?,h]
 ·simp [World.shape?,h]
 ·simp [World.frozen?,h]
section
variable (a:Ar) (x:Frame) (xs:List Frame) (Shun:Loc->Prop) (N:Nat)
theorem bx3 {w:World}(h:FB (bxOf a) w):w.cell? ⟨a.m+3,0,none⟩=some a.v3:=cell_of (T:=46) (h (a.m+3) _ (by simp [bxOf]))
theorem bx8 {w:World}(h:FB (bxOf a) w):w.cell? ⟨a.m+8,0,none⟩=some a.chV:=cell_of (T:=117) (h (a.m+8) _ (by simp [bxOf]))
theorem bQ6 {k:Nat}(h:k<=8):IntKind.i64.wrap ((k:Int)+1)=((k+1:Nat):Int):=by
 rcases lt9 h with rfl | rfl | rfl | rfl | rfl | rfl | rfl | rfl | rfl<;>rfl
theorem pq_sh (f:FuncId) (hf:seen Try.prog f (esOf a.dShW).toArray = #[]) (r:List (FuncId×List Did)) (hr:PQ (env a x xs Shun N) r):PQ (env a x xs Shun N) ((f,a.dShW)::r):=by
 refine ⟨fun w _ hw=>?_,?_,hr⟩
 ·obtain ⟨s,m,hw⟩:=hw;have:=(af6 hw).2.2.1
  exact ⟨⟨this,this,trivial⟩,rfl⟩
 ·rw [show (env a x xs Shun N).P=Try.prog from rfl,hf];simp
theorem bX0 (a:Ar) (x:Frame) (xs:List Frame) (k:Int) (g16 g31 g32 g33 g34:Value):∃ sW1 sA sB sW2 sC sD sW3 sE:St,
  runG Try.prog true 27 (a.s0 x xs k g16 g31 g32 g33 g34) []=some (sW1,[(71,[.mk (.extern 79),.mk .disable])])/\
  oneG Try.prog true sW1 [sV 4294967296]=some (sA,[.mk (.extern 117),a.rdW 4294967296])/\
  oneG Try.prog true sW1 [sV 0]=some (sB,[.mk (.extern 117),a.rdW 0])/\
  runG Try.prog true 48 sA []=some (sW2,[])/\
  oneG Try.prog true sW2 [SHa,.b false,sV 4294967296]=some (sC,[.mk (.extern 119),.sh (a.m+9) (some (127,2)),.fz ⟨a.m+9,0,none⟩ false,a.rdW 4294967296,.wr .atomic ⟨a.m+9,0,none⟩ (.int .u64 4294967297)])/\
  oneG Try.prog true sW2 [SHa,.b false,sV 0]=some (sD,[.mk (.extern 119),.sh (a.m+9) (some (127,2)),.fz ⟨a.m+9,0,none⟩ false,a.rdW 0])/\
  runG Try.prog true 44 sC [[SHa,SHa]]=some (sW3,[(71,a.dShW),(71,[.mk (.extern 95),.mk (.write ⟨a.m+9,1,none⟩)])])/\
  oneG Try.prog true sW3 [.v (.int .u32 1)]=some (sE,[.mk (.extern 96),.mk .disable,.rd .atomic ⟨a.m+9,1,none⟩ (.int .u32 1),.wr .atomic ⟨a.m+9,1,none⟩ (.int .u32 0),.mk .enable])/\
  aW1 Try.prog true sW3.1 sW3.2 [.v (.int .u32 0)]=some (.still { G sW3.1 sW3.2 with status:= .blocked },[.mk (.extern 96),.mk .disable,.rd .atomic ⟨a.m+9,1,none⟩ (.int .u32 0)])/\
  runG Try.prog true 65 sB [[SHa,SHa],[.v a.V]]=some ((x.finish a.V,xs),a.endL)/\
  runG Try.prog true 91 sD [[sV 0],[SHa,SHa],[.v a.V]]=some ((x.finish a.V,xs),(87,[.mk (.extern 117),a.rdW 0])::a.endL)/\
  runG Try.prog true 52 sE [[sV 0],[SHa,SHa],[.v a.V]]=some ((x.finish a.V,xs),(87,[.mk (.extern 117),a.rdW 0])::a.endL)/\
  seen Try.prog sW1.1.fn (esOf [.mk (.extern 117),a.rdW 4294967296]).toArray = #[rdE (a.m+9) 0]/\
  seen Try.prog sW1.1.fn (esOf [.mk (.extern 117),a.rdW 0]).toArray = #[rdE (a.m+9) 0]/\
  seen Try.prog sW2.1.fn (esOf [.mk (.extern 119),.sh (a.m+9) (some (127,2)),.fz ⟨a.m+9,0,none⟩ false,a.rdW 4294967296,.wr .atomic ⟨a.m+9,0,none⟩ (.int .u64 4294967297)]).toArray = #[rdE (a.m+9) 0,wrE (a.m+9) 0]/\
  seen Try.prog sW2.1.fn (esOf [.mk (.extern 119),.sh (a.m+9) (some (127,2)),.fz ⟨a.m+9,0,none⟩ false,a.rdW 0]).toArray = #[rdE (a.m+9) 0]/\
  seen Try.prog sW3.1.fn (esOf [.mk (.extern 96),.mk .disable,.rd .atomic ⟨a.m+9,1,none⟩ (.int .u32 1),.wr .atomic ⟨a.m+9,1,none⟩ (.int .u32 0),.mk .enable]).toArray = #[mkE .disable,rdE (a.m+9) 1,wrE (a.m+9) 1,mkE .enable]:=by
 obtain ⟨f1,f2,f3,f4,f5,f6,f7,f8,f9,f10,f11,f12⟩:=bp4 a x xs k g16 g31 g32 g33 g34;refine ⟨a.sW1 x xs k g16 g31 g32 g33 g34,a.sA x xs k g16 g31 g32 g33 g34,a.sB x xs k g16 g31 g32 g33 g34,a.sW2 x xs k g16 g31 g32 g33 g34,a.sC x xs k g16 g31 g32 g33 g34,a.sD x xs k g16 g31 g32 g33 g34,a.sW3 x xs k g16 g31 g32 g33 g34,a.sE x xs k g16 g31 g32 g33 g34,f1,f2,f3,f4,f5,f6,f7,f8,f9,f10,f11,f12,?_,?_,?_,?_,?_⟩<;>kernel_rfl
theorem b09 (k:Int) (g16 g31 g32 g33 g34:Value):PS (env a x xs Shun N) a.n3 .cls 0 (G (a.s0 x xs k g16 g31 g32 g33 g34).1 (a.s0 x xs k g16 g31 g32 g33 g34).2):=by
 obtain ⟨sW1,sA,sB,sW2,sC,sD,sW3,sE,f1,f2,f3,f4,f5,f6,f7,f8,f9,f10,f11,f12,e1,e0,c1,c0,es⟩:=bX0 a x xs k g16 g31 g32 g33 g34;have hWL:(env a x xs Shun N).A.Wg<(env a x xs Shun N).Low:=by show a.m+9<a.m+10; omega
 refine PS.run (E:=env a x xs Shun N) 27 f1 ⟨fun w _ _=>⟨⟨trivial,trivial,trivial⟩,rfl⟩,fun e he=>?_,trivial⟩ ?_
 ·have:seen Try.prog 71 (esOf [.mk (.extern 79),.mk .disable]).toArray = #[mkE .disable]:=by kernel_rfl
  rw [show (env a x xs Shun N).P=Try.prog from rfl,this] at he;simp at he;subst he;exact bn7 rfl (by simp) trivial
 have hd1:dfold (env a x xs Shun N).P 0 [(71,[.mk (.extern 79),.mk .disable])]=1:=by kernel_rfl
 rw [hd1];have hw3:PS (env a x xs Shun N) a.n3 .reg 1 (G sW3.1 sW3.2):=by
  refine .w3 (s1:=sE) (es:=#[mkE .disable,rdE (a.m+9) 1,wrE (a.m+9) 1,mkE .enable]) (fun w st _ hw=>?_) (fun w _ hw=>?_) ⟨rfl,52,_,_,f12,.inr rfl⟩ (fun e he=>?_)
  ·exact ai0 f9 (w:=w) ⟨trivial,trivial,(af6 hw).2.1,trivial⟩
  ·have:=ab4 f8 (w:=w) ⟨trivial,trivial,(af6 hw).2.1,⟨⟨_,(af6 hw).2.1⟩,(af6 hw).2.2.2 1,by simp,by simp⟩,trivial,trivial⟩
   rw [es] at this;exact this
  ·simp at he;rcases he with rfl | rfl | rfl | rfl
   ·exact bn7 rfl (by simp) trivial
   ·exact aN6 hWL 1 false
   ·exact aN6 hWL 1 true
   ·exact bn7 rfl (by simp) trivial
 refine .w1 (s1:=sA) (s0:=sB) (es:=#[rdE (a.m+9) 0]) (fun w _ hw=>?_) ?_ (fun w _ hw=>?_) ⟨rfl,65,_,_,f10,.inl rfl⟩ (fun e he=>?_)
 ·have:=ab4 f2 (w:=w) ⟨trivial,(af6 hw).1,trivial⟩
  rw [e1] at this;exact this
 ·refine PS.run (E:=env a x xs Shun N) 48 f4 trivial ?_;refine .w2 (s1:=sC) (s0:=sD) (es:=#[rdE (a.m+9) 0,wrE (a.m+9) 0]) (es0:=#[rdE (a.m+9) 0]) (fun w _ hw=>?_) ?_ (fun w _ hw=>?_) ⟨rfl,91,_,_,f11,.inr rfl⟩ (fun e he=>?_) (fun e he=>?_)
  ·have hc:=af6 hw;have:=ab4 f5 (w:=w) ⟨trivial,hc.2.2.1,hc.2.2.2 0,hc.1,⟨⟨_,hc.1⟩,hc.2.2.2 0,by simp,by simp⟩,trivial⟩
   rw [c1] at this;exact this
  ·refine PS.run (E:=env a x xs Shun N) 44 f7 (pq_sh a x xs Shun N 71 (by kernel_rfl) _ ⟨fun w _ _=>⟨⟨trivial,trivial,trivial⟩,rfl⟩,fun e he=>?_,trivial⟩) ?_
   ·have:seen Try.prog 71 (esOf [.mk (.extern 95),.mk (.write ⟨a.m+9,1,none⟩)]).toArray = #[mkE (.write ⟨a.m+9,1,none⟩)]:=by kernel_rfl
    rw [show (env a x xs Shun N).P=Try.prog from rfl,this] at he;simp at he;subst he;refine ⟨⟨fun b hb=>?_,by simp [mkE,MemAct.ofEvent]⟩,by show a.m+9<a.m+10; omega⟩;simp only [mkE,MemAct.ofEvent,MemAct.touch?,Option.some.injEq] at hb;subst hb;exact .inr (.inl ⟨_,rfl,rfl,by simp⟩)
   ·exact hw3
  ·have hc:=af6 hw;have:=ab4 f6 (w:=w) ⟨trivial,hc.2.2.1,hc.2.2.2 0,hc.1,trivial⟩
   rw [c0] at this;exact this
  ·simp at he;rcases he with rfl | rfl
   ·exact aN6 hWL 0 false
   ·exact aN6 hWL 0 true
  ·simp at he;subst he;exact aN6 hWL 0 false
 ·have:=ab4 f3 (w:=w) ⟨trivial,(af6 hw).1,trivial⟩
  rw [e0] at this;exact this
 ·simp at he;subst he;exact aN6 hWL 0 false
theorem b11 (i:Nat) (v:Value) (hi:i<10) (hb:∃ o,bxOf a (a.m+i)=some o) (hv:∀ w,FB (bxOf a) w->w.cell? ⟨a.m+i,0,none⟩=some v):PQ (env a x xs Shun N) [(49,[.rd .plain ⟨a.m+i,0,none⟩ v])]:=by
 refine ⟨fun w hw _=>⟨⟨hv w hw,trivial⟩,rfl⟩,fun e he=>?_,trivial⟩;have:seen Try.prog 49 (esOf [.rd .plain ⟨a.m+i,0,none⟩ v]).toArray = #[⟨.cell ⟨a.m+i,0,none⟩,false,false⟩]:=by kernel_rfl
 rw [show (env a x xs Shun N).P=Try.prog from rfl,this] at he;simp at he;subst he;exact cf6 hb (by show a.m+i<a.m+10; omega)
theorem bg8 (d i:Nat) (v:Value):dfold Try.prog d [(49,[.rd .plain ⟨a.m+i,0,none⟩ v])]=d:=by
 have:seen Try.prog 49 (esOf [.rd .plain ⟨a.m+i,0,none⟩ v]).toArray = #[⟨.cell ⟨a.m+i,0,none⟩,false,false⟩]:=by kernel_rfl
 simp only [dfold,this];rfl
theorem bp3 (k:Int) (g16 g31 g32 g33 g34:Value):mayWake Try.prog (G (a.SC (.int .i64 k) g16 g31 g32 g33 g34) (x::xs))=true:=by kernel_rfl
theorem bO4 (k:Int) (g16 g31 g32 g33 g34:Value):(a.SC (.int .i64 k) g16 g31 g32 g33 g34).fn=49:=rfl
theorem b10 (h8:a.n3<=8):∀ (j k:Nat),k+j=a.n3->∀ g16 g30 g31 g32 g33 g34:Value,PS (env a x xs Shun N) k .opn 0 (G (a.SP (.int .i64 k) g16 g30 g31 g32 g33 g34) (x::xs)):=by
 have hB8:∃ o,bxOf a (a.m+8)=some o:=⟨_,by simp [bxOf]; rfl⟩
 intro j;induction j with
 | zero=>
  intro k hk g16 g30 g31 g32 g33 g34;obtain rfl:k=a.n3:=by omega
  refine PS.run (E:=env a x xs Shun N) 3 (s:=(a.SP (.int .i64 (a.n3:Int)) g16 g30 g31 g32 g33 g34,x::xs)) (bS3 a (x::xs) _ _ _ _ _ _ _) trivial ?_;rw [lm (Int.lt_irrefl _)];refine PS.run (E:=env a x xs Shun N) 7 (s:=(a.SP1 (.int .i64 (a.n3:Int)) g16 false g31 g32 g33 g34,x::xs)) (b99 a (x::xs) _ _ _ _ _ _) (b11 a x xs Shun N 8 a.chV (by omega) hB8 fun w hw=>bx8 a hw) ?_;rw [show (env a x xs Shun N).P=Try.prog from rfl,show a.rdC=[.rd .plain ⟨a.m+8,0,none⟩ a.chV] from rfl,bg8];have ec:∀ s' r':Nat,seen Try.prog 49 (esOf [.gt (a.m+7) (.chan 0 #[] false s' r' false),.st (a.m+7) (.chan 0 #[] true s' r' false)]).toArray = #[⟨.obj (a.m+7),false,true⟩,⟨.obj (a.m+7),true,true⟩]:=fun _ _=>by kernel_rfl
  refine PS.close (E:=env a x xs Shun N) (s:=(a.SC (.int .i64 (a.n3:Int)) g16 g31 g32 g33 g34,x::xs)) (s1:=a.s0 x xs (a.n3:Int) g16 g31 g32 g33 g34) (es:=#[⟨.obj (a.m+7),false,true⟩,⟨.obj (a.m+7),true,true⟩]) (fun w s' r' _ hc=>?_) (bp3 a x xs _ _ _ _ _ _) (fun e he=>?_) rfl (b09 a x xs Shun N _ _ _ _ _ _)
  ·have:=ab4 (b60 a (x::xs) (a.n3:Int) g16 g31 g32 g33 g34 s' r') (w:=w) ⟨⟨hc,fun _ _ _ h=>by cases h⟩,⟨_,hc,fun _ _ _ h=>by cases h⟩,trivial⟩
   rw [bO4,ec] at this;exact this
  ·simp at he;rcases he with rfl | rfl
   ·refine ⟨⟨fun b hb=>?_,by simp [MemAct.ofEvent]⟩,by show a.m+7<a.m+10; omega⟩;simp only [MemAct.ofEvent,MemAct.touch?,Option.some.injEq] at hb;subst hb;exact .inr (.inr ⟨rfl,rfl⟩)
   ·exact ⟨⟨fun b hb=>by simp [MemAct.ofEvent,MemAct.touch?] at hb,by simp [MemAct.ofEvent]⟩,by show a.m+7<a.m+10; omega⟩
 | succ j ih=>
  intro k hk g16 g30 g31 g32 g33 g34;refine PS.run (E:=env a x xs Shun N) 3 (s:=(a.SP (.int .i64 (k:Int)) g16 g30 g31 g32 g33 g34,x::xs)) (bS3 a (x::xs) _ _ _ _ _ _ _) trivial ?_;rw [lk (show (k:Int)<(a.n3:Int) by omega)];refine PS.run (E:=env a x xs Shun N) 14 (s:=(a.SP1 (.int .i64 (k:Int)) g16 true g31 g32 g33 g34,x::xs)) (ca2 a (x::xs) _ _ _ _ _ _) (b11 a x xs Shun N 8 a.chV (by omega) hB8 fun w hw=>bx8 a hw) ?_;rw [show (env a x xs Shun N).P=Try.prog from rfl,show a.rdC=[.rd .plain ⟨a.m+8,0,none⟩ a.chV] from rfl,bg8];refine PS.send (E:=env a x xs Shun N) (s:=(a.SS (.int .i64 (k:Int)) g34,x::xs)) (fun w _=>?_) (by show k<a.n3; omega) ?_
  ·exact ai0 (b96 a (x::xs) k g34) (w:=w) trivial
  ·rw [b95];have hr:=ca0 a (x::xs) k g34;rw [bQ6 (by omega)] at hr;exact PS.run (E:=env a x xs Shun N) 7 (s:=(a.SS' (.int .i64 (k:Int)) g34,x::xs)) hr trivial (ih (k+1) (by omega) _ _ _ _ _ _)
theorem bL9 (h8:a.n3<=8):PS (env a x xs Shun N) 0 .opn 0 (G a.FP (x::xs)):=by
 have hB3:∃ o,bxOf a (a.m+3)=some o:=⟨_,by simp [bxOf]; rfl⟩
 refine PS.run (E:=env a x xs Shun N) 23 (s:=(a.FP,x::xs)) (ca6 a (x::xs)) (b11 a x xs Shun N 3 a.v3 (by omega) hB3 fun w hw=>bx3 a hw) ?_;rw [show (env a x xs Shun N).P=Try.prog from rfl,bg8];exact b10 a x xs Shun N h8 a.n3 0 (by omega) _ _ _ _ _ _
end
end Hid
namespace Hid
open Go Go.RowKit Go.Conc
inductive Sch (ops:Array Oper):List Nat->List Nat->Prop
 | nil {D:List Nat}(h:∀ i,i<ops.size->i∈D):Sch ops D []
 | cons {D:List Nat}{i:Nat}{l:List Nat}(hi:i<ops.size) (hn:i ∉ D) (hd:∀ o,ops[i]?=some o->∀ e∈o.after,Region.binds .any e=true->e.on∈D) (k:Sch ops (i::D) l):Sch ops D (i::l)
def acyc (ops:Array Oper):Bool:=(List.range ops.size).all fun i=>((ops[i]?).map (·.after.all fun e=>!Region.binds .any e||decide (e.on<i))).getD true
theorem b98 {ops:Array Oper}(ha:acyc ops=true):∀ (fuel t:Nat) (listed:Array Bool) (D:List Nat),listed.size=ops.size->(∀ i,i<ops.size->(listed.getD i true=false<->i ∉ D))->((List.range ops.size).filter fun i=>i ∉ D).length<=fuel->Sch ops D (Region.linearise.go .any ops fuel t listed []):=by
 intro fuel;induction fuel with
 | zero=>
  intro t listed D hs hl hf;refine .nil fun i hi=>lz fun hn=>?_
  have:i∈(List.range ops.size).filter fun i=>i ∉ D:=by simp [hi,hn]
  have:=List.length_pos_of_mem this
  omega
 | succ fuel ih=>
  intro t listed D hs hl hf;unfold Region.linearise.go;simp only
  generalize hrs:(List.range ops.size).filter (fun i=>!listed.getD i true&&((ops[i]?).map (·.after.all fun e=>!Region.binds .any e||listed.getD e.on false)).getD false)=rs;have getF:∀ j,j<ops.size->(listed.getD j false=true<->j∈D):=fun j hj=>by
   have h1:=hl j hj;have hlt:j<listed.size:=by omega
   simp only [lc,lH hlt,lX] at h1 ⊢;cases hb:listed[j]
   ·rw [hb] at h1; simp at h1; simp [h1]
   ·rw [hb] at h1; simp at h1; simp [h1]
  have mem:∀ i,i∈rs<->i<ops.size/\i ∉ D/\∀ o,ops[i]?=some o->∀ e∈o.after,Region.binds .any e=true->listed.getD e.on false=true:=fun i=>by
   rw [<-hrs];simp only [List.mem_filter,lP,lu,uW];constructor
   ·rintro ⟨hi,h1,h2⟩;refine ⟨hi,(hl i hi).1 h1,fun o ho e he hb=>?_⟩;rw [ho] at h2;simp only [lC,lX,uY] at h2;obtain ⟨j,hj,rfl⟩:=xW.1 he;have:=h2 j hj
    rw [hb] at this;simpa using this
   ·rintro ⟨hi,h1,h2⟩;refine ⟨hi,(hl i hi).2 h1,?_⟩;have ho:=lH hi;rw [ho];simp only [lC,lX,uY];intro j hj;cases hb:Region.binds .any ops[i].after[j] with
    | false=>rfl
    | true=>rw [h2 _ ho _ (Array.getElem_mem hj) hb]; rfl
  have step:∀ i,i∈rs->Sch ops D (i::Region.linearise.go .any ops fuel (t / rs.length) (listed.setIfInBounds i true) []):=fun i hi=>by
   obtain ⟨h1,h2,h3⟩:=(mem i).1 hi;refine .cons h1 h2 (fun o ho e he hb=>?_) (ih _ _ _ (by simp [hs]) (fun j hj=>?_) ?_)
   ·have hx:=h3 o ho e he hb;have hlt:e.on<listed.size:=by
     refine lz fun hc=>?_
     rw [lc,xO (by omega)] at hx;cases hx
    exact (getF e.on (by omega)).1 hx
   ·by_cases hji:i=j
    ·subst hji;simp [lc,ll (show i<listed.size by omega)]
    ·rw [lc,lh hji,<-lc,hl j hj];simp [xy hji]
   ·have hlt:((List.range ops.size).filter fun j=>j ∉ i::D).length<((List.range ops.size).filter fun j=>j ∉ D).length:=by
     have e:((List.range ops.size).filter fun j=>j ∉ i::D)=(((List.range ops.size).filter fun j=>j ∉ D).filter fun j=>j≠i):=by
      rw [List.filter_filter];congr 1;funext j;simp [and_comm]
     rw [e];refine List.length_filter_lt_length_iff_exists.2 ⟨i,by simp [h1,h2],by simp⟩
    omega
  cases hp:rs[t % rs.length]? with
  | some i=>
   simp only
   rw [linearise_go_acc];exact step i (xi hp)
  | none=>
   have hnil:rs=[]:=by
    refine lz fun hc=>?_
    have:=List.length_pos_iff.2 hc
    rw [List.getElem?_eq_none_iff] at hp;have:=xP t this
    omega
   refine .nil fun i hi=>lz fun hn=>?_
   have:∀ n i,i<n->i<ops.size->i ∉ D->False:=by
    intro n;induction n with
    | zero=>intro i h; omega
    | succ n ihn=>
     intro i hin hi hn;have:i∈rs:=(mem i).2 ⟨hi,hn,fun o ho e he hb=>?_⟩
     ·rw [hnil] at this; cases this
     ·have h1:=lZ.1 ha i (lP.2 hi);rw [ho] at h1;simp only [lC,lX,uY] at h1;obtain ⟨j,hj,rfl⟩:=xW.1 he;have h2:=h1 j hj;rw [hb] at h2;simp at h2;exact (getF _ (by omega)).2 (lz fun hc=>ihn _ (by omega) (by omega) hc)
   exact this (i+1) i (by omega) hi hn
theorem b97 {ops:Array Oper}(ha:acyc ops=true) (hd:Region.departs ops=false) (mixed:Bool) (t:Nat):Sch ops [] (Region.schedule mixed ops t):=by
 unfold Region.schedule;rw [hd];simp only [Bool.not_false,Bool.or_true,xf];unfold Region.linearise;exact b98 ha _ _ _ _ (by simp) (fun i hi=>by simp [lc,hi]) (xc (List.length_filter_le _ _) (by simp))
structure AtOpW (x:Frame) (o:Oper):Prop where
 mode:x.mode = .run
 kind:bs7 x.kind=true
 round:x.roundOf=none
 todo:∃ ops i rest k,x.todo = .inRegion ops (i::rest)::k/\ops[i]?=some o/\o.guard=none
variable [inst:LoopOK] [Junk]
section
variable {E:Env}{B0:Nat}{T:Nat->Trace->Prop}{st:Ph->Int}{R:Ph->Prop}{nx dn:Nat}{L:World}{Post:Value->World->Prop}
theorem WW.op (hE:EOK E B0) (hR:RP st R) {s s':St}{an:List An}{l:List Did}(h1:oneG E.P false s an=some (s',l)) (hq:QAll E L [(s.1.fn,l)]) (k:WW E B0 (TI E.A) st R nx dn (G s'.1 s'.2) L Post):WW E B0 (TI E.A) st R nx dn (G s.1 s.2) L Post:=by
 have hd:deafBehind dn (seen E.P s.1.fn (esOf l).toArray)=dn:=deafBehind_still (fun e he=>(hq.2.1 e he).2) _;refine WW.still (T':=TI E.A) hE (al1 hE.ap) hR (es:=seen E.P s.1.fn (esOf l).toArray) (fun C ph _ hb hw hg=>?_) (aV0 hE fun e he=>(hq.2.1 e he).1) (by rw [hd]; exact k);obtain ⟨hf,hw'⟩:=hq.1 C hb hw ⟨_,_,hg⟩;rw [ab4 h1 hf,hw']
structure LF (E:Env) (B0:Nat) (L:World):Prop where
 low:E.Low<=L.heap.size
 shun:∀ l,E.A.Shun l->∃ a T fz,l = .cell a/\L.heap[a.block]?=some (.cells #[] T fz)
 chL:L.heap[E.A.Ch]?=some (.chan 0 #[] false 0 0 false)
 hidb:∀ b o,E.bx b=some o->∃ T fz,L.heap[b]?=some (.cells #[] T fz)
 hidw:∃ T fz,L.heap[E.A.Wg]?=some (.cells #[] T fz)
theorem WW.facts {b:Goroutine}(h:LF E B0 L->WW E B0 T st R nx dn b L Post):WW E B0 T st R nx dn b L Post:=
 fun ph d a gs C sl t q hinv hr=>h ⟨hinv.low,hinv.shun,hinv.chL,hinv.hidb,hinv.hidw⟩ ph d a gs C sl t q hinv hr
theorem b47 (hE:EOK E B0) (hl:LF E B0 L) {ad:Addr}{v:Value}(hv:L.cell? ad=some v):Evn E.A L.heap.size ⟨.cell ad,false,false⟩:=by
 obtain ⟨c,U,fz,k1,k2⟩:∃ c T fz,L.heap[ad.block]?=some (.cells c T fz)/\ad.off<c.size:=by
  unfold World.cell? at hv;cases ho:L.heap[ad.block]? with
  | none=>rw [ho] at hv; cases hv
  | some o=>
   rw [ho] at hv;cases o with
   | cells c T fz=>
    simp only at hv
    split at hv
    ·cases hv
    ·exact ⟨c,T,fz,rfl,(lg.1 hv).1⟩
   | _=>cases hv
 have no:∀ {b:Nat}{T fz},b=ad.block->L.heap[b]?≠some (.cells #[] T fz):=fun {b T fz} hb h=>by
  subst hb;rw [k1] at h;cases h;simp at k2
 refine ⟨⟨fun x hx=> .inl ?_,by simp [MemAct.ofEvent]⟩,(lg.1 k1).1⟩;simp only [MemAct.ofEvent,MemAct.touch?,Option.some.injEq] at hx;subst hx;refine ⟨?_,fun hs=>?_⟩
 ·rintro (⟨a2,e2,hc⟩ | e2)
  ·cases e2;rcases hc with hc | hc
   ·obtain ⟨o,ho⟩:=hE.bx' _ hc;obtain ⟨U2,fz2,k3⟩:=hl.hidb _ _ ho;exact no rfl k3
   ·obtain ⟨U2,fz2,k3⟩:=hl.hidw;exact no hc.symm k3
  ·cases e2
 ·obtain ⟨a2,U2,fz2,e2,k3⟩:=hl.shun _ hs;cases e2;exact (no rfl k3).elim
theorem WW.draw (hE:EOK E B0) (hT:TProp E.A T) (hR:RP st R) {fr:Frame}{cs:List Frame}{id:Nat}{ops:Array Oper}{k:List Item}(hm:fr.mode = .run) (hq:fr.todo = .code (.region id ops true)::k)
  (h:∀ n,WW E B0 T st R nx dn (G { fr with todo:= .inRegion ops (Region.schedule (E.P.follows .mixedOrders) ops n)::k } cs) L Post):WW E B0 T st R nx dn (G fr cs) L Post:=by
 refine .of hE hT hR rfl fun ph d a gs C sl t q hinv hr=>?_
 obtain ⟨n,e,hch⟩:∃ n e,(choose (.order fr.fn id)).run E.P C = .ok n (C.at e):=by
  exact ⟨_,C.drawn+1,rfl⟩
 have hs:stepG E.P false (G fr cs) C = .go (G { fr with todo:= .inRegion ops (Region.schedule (E.P.follows .mixedOrders) ops n)::k } cs) (C.at e) #[]:=by
  simp only [stepG,G,hm,stepG.exec,hq,hch,Bool.not_true,lG,xj]
 obtain ⟨gs',h1,hz,h2,h3,h4,h5,h6⟩:=ax8 (sl:=sl) hinv hs;refine ⟨_,_,h1,h n ph d _ gs' _ sl _ q (Inv.atC ⟨h2,h3,h4,hinv.wr,hinv.old,hinv.tape,hinv.low,hinv.shun,hinv.bx,hinv.ch,hinv.chL,hinv.wg,hinv.hidb,hinv.hidw,?_,h5,h6,hinv.ps.woken hinv.ch _ _,hinv.cn⟩ e) hr⟩;rw [aX4];exact hinv.tr
theorem WW.lock (hE:EOK E B0) (hR:RP st R) {p:Program}(J:JB) (hP:@Pair J.v p E.P) (hJs:¬ J.v.set) (hok:∀ r,J.v.ok r<->inst.ok r) (hG:GB p B0) {f:FuncId}{Q:Value->World->Prop}{x y:Frame}{o oy:Oper}(hx:AtOp x o) (hy:AtOpW y oy) (hT:@OpT J.v p E.P o)
  (hxy:execOp y.eval oy=execOp x.eval o) {cs zs csP:List Frame}(hcs:cs=zs++[dmF p]) (hz:∀ z∈zs,z.defers=[]/\(z.mode = .run\/z.mode = .returning)) (hxd:x.defers=[]) (hval:∀ g args w w' es es',(execOp x.eval o).runT p w es≠(.ok (.enter g args) w',es'))
  (ht:Tree p (AtRet p f Q) (G x cs) L)
  (K:∀ v L',Tree p (AtRet p f Q) (G (x.finish v) cs) L'->Later p (G x cs) L (G (x.finish v) cs) L'->WW E B0 (TI E.A) st R nx dn (G (y.finish v) csP) L' Post):WW E B0 (TI E.A) st R nx dn (G y csP) L Post:=by
 refine .of hE (al1 hE.ap) hR rfl fun ph d a gs C sl t q hinv hr=>?_
 obtain ⟨g',L',es,e,ht',hlat⟩:=ht.goes (as6 hx.mode) C.drawn;have hwr:@WR J.v _ C (L.at C.drawn):=by
  have h:=hinv.wr;exact @WR.mk J.v _ C (L.at C.drawn) (h.os) (h.out) (h.size) (h.blk) (h.nv) (h.np) (fun b r hx=>(hok r).2 (h.lp b r hx))
 have hwl:@WR J.v _ (L.at C.drawn) (L.at C.drawn):=@WR.self J.v _ _ _ hwr;have hearly:(x.kind==CallKind.early)=false:=by rw [hx.kind]; rfl
 have hmode:∀ ch,g'.frame.mode≠.panicking ch:=by
  intro ch hch;refine aL2 (P:=E.P) ht' ?_;have e':=e;rw [hx.step] at e';have hTT:=hT x.eval fun _=>rfl
  cases hr:(execOp x.eval o).runT p (L.at C.drawn) #[] with
  | mk r es0=>
   cases r with
   | ok n w=>
    have hpl:=(@TameN.plain J.v _ p E.P hP _ hTT _ _ _ _ _ hwl hr).1;have e2:=@AtOp.go J.v _ _ _ hx p true cs _ _ _ _ hr hpl;rw [e] at e2;exfalso;have fin:∀ v,(x.finish v).mode = .run:=fun v=>by
     unfold Frame.finish;split<;>exact hx.mode
    cases hpl<;>(simp only [GStep.go.injEq] at e2; rw [e2.1] at hch)<;>first | (simp only [G,fin] at hch; cases hch) | (simp only [G,Frame.enter] at hch; cases hch)
   | halt hh w=>
    unfold stepG.apply at e';simp only [hr,xf,hearly,lG,xj] at e';cases @TameN.bF3 J.v _ p E.P (@Pair.twin J.v p E.P hP) _ hTT _ _ _ _ _ hwl hr with
    | panic v=>
     simp only [ac9,GStep.go.injEq] at e';rw [<-e'.1];have:x.raise [{ v,recovered:=false }]={ x with mode:= .panicking [{ v,recovered:=false }] }:=by
      unfold Frame.raise;rw [hx.mode]
     rw [this,hcs];exact .fr rfl hxd hz
    | uns u hu=>cases u<;>first | (simp [GStep.after] at e'; done) | exact absurd rfl (hu _)
    | stuck s=>simp [GStep.after] at e'
 obtain ⟨n,es0,hrun,hp,rfl⟩:=@AtOp.inv J.v _ p E.P x o hx hP hT true cs _ _ _ _ hwl e hmode;have e2:=@AtOp.go J.v _ _ _ hx p true cs _ _ _ _ hrun hp;rw [e] at e2;obtain ⟨_,_,hl⟩:=@TameN.law J.v _ p E.P (@Pair.twin J.v p E.P hP) _ (hT x.eval fun _=>rfl) C (L.at C.drawn) _ _ _ _ hwr (hinv.wr.gl hG hinv.old) (fun i _=>by show C.tape _=L.tape _; rw [hinv.tape]; rfl) hrun;have fin:∀ v C',(execOp x.eval o).runT E.P C #[]=(.ok n C',es0)->(n = .value v\/(n = .skip/\v=undef))->stepG E.P false (G y csP) C = .go (G (y.finish v) csP) C' (seen E.P y.fn es0):=fun v C' hC hn=>by
  rw [<-hxy] at hC;obtain ⟨hm,hk,hro,ops,i,rest,k,htd,ho,hg⟩:=hy;have hw:(((ops[i]?).map (Region.wanted · (yielded ops y.tmps))).getD false)=true:=by
   rw [ho];simp [Region.wanted,hg]
  have ho':y.oper?=some oy:=by simp only [Frame.oper?,htd,ho]
  have hk':(y.kind==CallKind.early)=false:=by cases hh:y.kind<;>first | rfl | (rw [hh] at hk; cases hk)
  simp only [stepG,G,hm,stepG.exec,htd,hw,xf,stepG.oper,ho',hro];unfold stepG.apply;rcases hn with rfl | ⟨rfl,rfl⟩<;>(simp only [hC,xf,hk',lG,xj,ac9])<;>rfl
 have fin2:∀ v C',(n = .value v\/(n = .skip/\v=undef))->g'=G (x.finish v) cs->(execOp x.eval o).runT E.P C #[]=(.ok n C',es0)->@Out J.v _ C (L.at C.drawn) C' L' #[] es0->∃ m' ops,runT E.P (crowd gs C sl) E.A.n=(.next m',ops)/\Wins E.P Post m' (t++ops):=fun v C' hn hg' hC ho=>by
  subst hg';have hof:=@OutF.of J.v _ hJs _ _ _ _ _ (@Out.seen J.v _ _ _ _ _ _ ho E.P y.fn);obtain ⟨gs',h1,hz1,h2,h3,h4,h5,h6⟩:=ax8 (sl:=sl) hinv (fin v C' hC hn);refine ⟨_,_,h1,K v _ ht' hlat ph d _ gs' C' sl _ q (hinv.out hE (fun r h=>(hok r).1 h) hof h2 h3 h4 h5 h6 (hinv.ps.woken ?_ _ _)) hr⟩;obtain ⟨s,r,hc⟩:=hinv.ch;exact ⟨s,r,(hof.obj _ _ hinv.chL fun _ _ _ hc=>by cases hc).2.trans hc⟩
 cases hp with
 | enter g1 args=>exact (hval _ _ _ _ _ _ hrun).elim
 | value v=>
  rcases hl with ⟨_,_,_,hc,_⟩ | ⟨C',hC,ho⟩
  ·cases hc
  simp only [GStep.go.injEq] at e2;exact fin2 v C' (.inl rfl) e2.1 hC ho
 | skip=>
  rcases hl with ⟨_,_,_,hc,_⟩ | ⟨C',hC,ho⟩
  ·cases hc
  simp only [GStep.go.injEq] at e2;exact fin2 undef C' (.inr ⟨rfl,rfl⟩) e2.1 hC ho
end
end Hid
namespace Hid
open Go Go.Proofs Go.RowKit Go.Conc Ar
open Go.ConcN (sumTo upd sumTo_upd upd_ne upd_same)
set_option maxRecDepth 100000
variable [Junk]
section
variable (a:Ar) (x:Frame) (xs:List Frame) (Shun:Loc->Prop) (N:Nat) {B0:Nat}{Post:Value->World->Prop}
abbrev TW (B0:Nat) (Post:Value->World->Prop) (R:Ph->Prop) (nx:Nat) (b:Goroutine) (L:World):Prop:=WW (env a x xs Shun N) B0 (TI (env a x xs Shun N).A) Ph.st R nx 0 b L Post
def PXL (B0:Nat) (Post:Value->World->Prop) (L:World):Prop:=∀ f d s,(env a x xs Shun N).PX f d s->∀ gs C sl t q,XS (env a x xs Shun N) B0 L 0 0 d (G s.1 s.2) gs C t q->Wins Try.prog Post (crowd gs C sl) t
theorem eok (hB:B0<=a.m) (hS:∀ l,Shun l->∃ ad,l = .cell ad/\ad.block<a.m) (hN:0<N):EOK (env a x xs Shun N) B0:=by
 have hb:∀ b o,bxOf a b=some o->b=a.m+0\/b=a.m+1\/b=a.m+2\/b=a.m+3\/b=a.m+4\/b=a.m+6\/b=a.m+8:=fun b o h=>by
  unfold bxOf at h;split at h
  ·exact .inl ‹_›
  split at h
  ·exact .inr (.inl ‹_›)
  split at h
  ·exact .inr (.inr (.inl ‹_›))
  split at h
  ·exact .inr (.inr (.inr (.inl ‹_›)))
  split at h
  ·exact .inr (.inr (.inr (.inr (.inl ‹_›))))
  split at h
  ·exact .inr (.inr (.inr (.inr (.inr (.inl ‹_›)))))
  split at h
  ·exact .inr (.inr (.inr (.inr (.inr (.inr ‹_›)))))
  ·cases h
 refine ⟨⟨fun b ⟨o,ho⟩ hc=>?_,fun l hl hh=>?_,hN⟩,fun b o h=>⟨o,h⟩,fun b h=>h,?_,?_,?_,?_,?_,?_,?_⟩
 ·have:=hb b o ho
  have hc:b=a.m+9:=hc;omega
 ·obtain ⟨ad,rfl,hlt⟩:=hS l hl;rcases hh with ⟨ad',e,⟨o,ho⟩ | hh⟩ | e
  ·cases e;have:=hb _ o ho
   omega
  ·cases e;have hh:ad.block=a.m+9:=hh;omega
  ·cases e
 ·show a.m+7≠a.m+9; omega
 ·show bxOf a (a.m+7)=none;cases h:bxOf a (a.m+7) with
  | none=>rfl
  | some o=>have:=hb _ o h; omega
 ·show bxOf a (a.m+9)=none;cases h:bxOf a (a.m+9) with
  | none=>rfl
  | some o=>have:=hb _ o h; omega
 ·show B0<=a.m+7; omega
 ·show B0<=a.m+9; omega
 ·show a.m+7<a.m+10; omega
 ·show a.m+9<a.m+10; omega
variable {a x xs Shun N}
theorem b52 (a:Ar) (x8 x12:Value) (y:Nat->Value):∃ u0 u1 u2 u3 u4 ua ub u5 u6 u7 u8 u9 uc:St,
  runG Try.prog false 17 (a.WX x8 x12 y,[gx]) [[SHa,SHa]]=some (u0,[(67,a.dShW)])/\
  oneG Try.prog false u0 []=some (u1,[.mk (.extern 78),.mk (.releaseMerge ⟨a.m+9,0,none⟩)])/\
  runG Try.prog false 3 u1 []=some (u2,[])/\
  oneG Try.prog false u2 []=some (u3,[.mk (.extern 79),.mk .disable])/\
  runG Try.prog false 34 u3 []=some (u4,[(67,[.mk (.extern 81)])])/\
  oneG Try.prog false u4 [sV 4294967296]=some (ua,[.mk (.extern 116),a.rdW 4294967296,a.wrW 0])/\
  oneG Try.prog false u4 [sV 4294967297]=some (ub,[.mk (.extern 116),a.rdW 4294967297,a.wrW 1])/\
  aK4 Try.prog 120 1 ua=true/\
  runG Try.prog false 103 ub []=some (u5,[])/\
  oneG Try.prog false u5 [sV 1]=some (u6,[.mk (.extern 117),a.rdW 1])/\
  runG Try.prog false 20 u6 []=some (u7,[])/\
  oneG Try.prog false u7 []=some (u8,[.mk (.extern 118),a.wrW 0])/\
  runG Try.prog false 27 u8 []=some (u9,[])/\
  oneG Try.prog false u9 [.v (.int .u32 0)]=some (uc,[.mk (.extern 90),.mk .disable,.rd .atomic ⟨a.m+9,1,none⟩ (.int .u32 0),.wr .atomic ⟨a.m+9,1,none⟩ (.int .u32 1),.mk .enable])/\
  aK4 Try.prog 60 1 uc=true/\mayWake Try.prog (G u9.1 u9.2)=true/\
  seen Try.prog u0.1.fn (esOf [.mk (.extern 78),.mk (.releaseMerge ⟨a.m+9,0,none⟩)]).toArray = #[mkE (.releaseMerge ⟨a.m+9,0,none⟩)]/\
  seen Try.prog u2.1.fn (esOf [.mk (.extern 79),.mk .disable]).toArray = #[mkE .disable]/\
  seen Try.prog u4.1.fn (esOf [.mk (.extern 116),a.rdW 4294967296,a.wrW 0]).toArray = #[rdE (a.m+9) 0,wrE (a.m+9) 0]/\
  seen Try.prog u4.1.fn (esOf [.mk (.extern 116),a.rdW 4294967297,a.wrW 1]).toArray = #[rdE (a.m+9) 0,wrE (a.m+9) 0]/\
  seen Try.prog u5.1.fn (esOf [.mk (.extern 117),a.rdW 1]).toArray = #[rdE (a.m+9) 0]/\
  seen Try.prog u7.1.fn (esOf [.mk (.extern 118),a.wrW 0]).toArray = #[wrE (a.m+9) 0]/\
  seen Try.prog u9.1.fn (esOf [.mk (.extern 90),.mk .disable,.rd .atomic ⟨a.m+9,1,none⟩ (.int .u32 0),.wr .atomic ⟨a.m+9,1,none⟩ (.int .u32 1),.mk .enable]).toArray = #[mkE .disable,rdE (a.m+9) 1,wrE (a.m+9) 1,mkE .enable]:=by
 obtain ⟨f1,f2,f3,f4,f5,f6,f7,f8,f9,f10,f11,f12,f13,f14,f15,f16⟩:=bu7 a x8 x12 y;refine ⟨a.u0 x8 x12 y,a.u1 x8 x12 y,a.u2 x8 x12 y,a.u3 x8 x12 y,a.u4 x8 x12 y,a.ua x8 x12 y,a.ub x8 x12 y,a.u5 x8 x12 y,a.u6 x8 x12 y,a.u7 x8 x12 y,a.u8 x8 x12 y,a.u9 x8 x12 y,a.uc x8 x12 y,f1,f2,f3,f4,f5,f6,f7,f8,f9,f10,f11,f12,f13,f14,f15,f16,?_,?_,?_,?_,?_,?_,?_⟩<;>kernel_rfl
theorem b94 (a:Ar):seen Try.prog 67 (esOf a.dShW).toArray = #[]:=by kernel_rfl
theorem nil81:seen Try.prog 67 (esOf [.mk (.extern 81)]).toArray = #[]:=by kernel_rfl
theorem b73 (hE:EOK (env a x xs Shun N) B0) {L:World}(hPX:PXL a x xs Shun N B0 Post L) (x8 x12:Value) (y:Nat->Value):TW a x xs Shun N B0 Post R2 a.n3 (G (a.WX x8 x12 y) [gx]) L:=by
 obtain ⟨u0,u1,u2,u3,u4,ua,ub,u5,u6,u7,u8,u9,uc,f1,f2,f3,f4,f5,f6,f7,f8,f9,f10,f11,f12,f13,f14,f15,f16,e1,e2,e3,e4,e5,e6,e7⟩:=b52 a x8 x12 y;have hKK:KK=4294967296:=rfl;refine WW.run (E:=env a x xs Shun N) hE rp2 17 (s:=(a.WX x8 x12 y,[gx])) f1 ⟨fun C _ _ hw=>?_,fun e he=>?_,trivial⟩ ?_
 ·obtain ⟨s,m,hw⟩:=hw;have:=(af6 hw).2.2.1
  exact ⟨⟨this,this,trivial⟩,rfl⟩
 ·rw [show (env a x xs Shun N).P=Try.prog from rfl,b94] at he;simp at he
 refine WW.r0 (E:=env a x xs Shun N) hE rp2 (s1:=u1) (fun C ph _ _ _ _=>?_) ?_
 ·have:=ab4 f2 (w:=C) ⟨trivial,trivial,trivial⟩
  rw [e1] at this;exact this
 refine WW.a63 (E:=env a x xs Shun N) hE (ah6 hE.ap) rp2 3 f3 trivial ?_;refine WW.k1 (E:=env a x xs Shun N) hE rp2 (s1:=u3) (fun C ph _ _ _ _=>?_) ?_
 ·have:=ab4 f4 (w:=C) ⟨trivial,trivial,trivial⟩
  rw [e2] at this;exact this
 refine WW.a63 (E:=env a x xs Shun N) hE (ah6 hE.ap) rp2 34 f5 ⟨fun C _=>⟨⟨trivial,trivial⟩,rfl⟩,nil81,trivial⟩ ?_;refine WW.d1 (E:=env a x xs Shun N) hE hPX (sa:=ua) (sb:=ub) (n:=120) (by omega) (fun C _ hw=>?_) (aX0 f8) (fun C _ hw=>?_) ?_
 ·have hc:=af6 hw;have:=ab4 f6 (w:=C) ⟨trivial,hc.1,⟨⟨_,hc.1⟩,hc.2.2.2 0,by simp,by simp⟩,trivial⟩
  rw [e3] at this;exact this
 ·have hc:=af6 hw;have:=ab4 f7 (w:=C) ⟨trivial,hc.1,⟨⟨_,hc.1⟩,hc.2.2.2 0,by simp,by simp⟩,trivial⟩
  rw [e4] at this;exact this
 refine WW.a63 (E:=env a x xs Shun N) hE (ah6 hE.ap) (rp3 1) 103 f9 trivial ?_;refine WW.d2 (E:=env a x xs Shun N) hE (rp3 1) (s1:=u6) (fun C ph _ _ _ hw=>?_) (by omega) ?_
 ·have hc:=af6 hw;have:=ab4 f10 (w:=C) ⟨trivial,hc.1,trivial⟩
  rw [e5] at this;exact this
 refine WW.a63 (E:=env a x xs Shun N) hE (ah6 hE.ap) (rp3 1) 20 f11 trivial ?_;refine WW.d3 (E:=env a x xs Shun N) hE (s1:=u8) (by omega) (fun C _ hw=>?_) ?_
 ·have hc:=af6 hw;have:=ab4 f12 (w:=C) ⟨trivial,⟨⟨_,hc.1⟩,hc.2.2.2 0,by simp,by simp⟩,trivial⟩
  rw [e6] at this;exact this
 refine WW.a63 (E:=env a x xs Shun N) hE (ah6 hE.ap) (rp3 0) 27 f13 trivial ?_;refine WW.d4 (E:=env a x xs Shun N) hE hPX (s1:=uc) (n:=60) (by omega) f16 (fun C _ hw=>?_) (aX0 f15);have hc:=af6 hw;have:=ab4 f14 (w:=C) ⟨trivial,trivial,hc.2.1,⟨⟨_,hc.2.1⟩,hc.2.2.2 1,by simp,by simp⟩,trivial,trivial⟩
 rw [e7] at this;exact this
end
end Hid
namespace Hid
open Go Go.Proofs Go.RowKit Go.Conc Ar
open Go.ConcN (sumTo upd sumTo_upd upd_ne upd_same)
set_option maxRecDepth 100000
variable [Junk]
noncomputable def depB (i j:Nat):Bool:=(opsW[i]?).any fun o=>o.after.any fun e=>Region.binds .any e&&e.on==j
theorem ai3 {i j:Nat}{D:List Nat}(hd:∀ o,opsW[i]?=some o->∀ e∈o.after,Region.binds .any e=true->e.on∈D) (h:depB i j=true):j∈D:=by
 unfold depB at h;cases ho:opsW[i]? with
 | none=>rw [ho] at h; cases h
 | some o=>
  rw [ho] at h;simp only [Option.any_some,Array.any_eq_true] at h;obtain ⟨q,hq,h⟩:=h;simp only [lu,beq_iff_eq] at h;rw [<-h.2];exact hd o ho _ (Array.getElem_mem hq) h.1
theorem bA5:opsW.size=13:=by kernel_rfl
theorem acycW:acyc opsW=true:=by kernel_rfl
theorem bP2:Region.departs opsW=false:=by kernel_rfl
section
variable {a:Ar}{x:Frame}{xs:List Frame}{Shun:Loc->Prop}{N:Nat}{B0:Nat}{Post:Value->World->Prop}{f:FuncId}{Q:Value->World->Prop}
noncomputable def fv (a:Ar) (k:Value) (p1 v1 p2:Value) (r:Option Value):Nat->Option Value
 | 0=>some a.V
 | 1=>some k
 | 2=>some a.v0
 | 3=>some (.int .i64 a.i1)
 | 4=>some (.int .i64 a.i2)
 | 5=>some a.v3
 | 6=>some k
 | 7=>some p1
 | 8=>some v1
 | 9=>some (.int .i64 a.i4)
 | 10=>r
 | 11=>some p2
 | _=>none
def OKy (F:Nat->Option Value) (D:List Nat) (y:Nat->Value):Prop:=∀ i,i∈D->∀ v,F i=some v->y (13+i)=v
theorem OKy.set {F:Nat->Option Value}{D:List Nat}{y:Nat->Value}(h:OKy F D y) {i:Nat}{v:Value}(hv:∀ u,F i=some u->u=v):OKy F (i::D) (updF y (13+i) v):=by
 intro j hj u hu;unfold updF;by_cases hji:j=i
 ·subst hji;rw [ln rfl];exact (hv u hu).symm
 ·rw [lr (by omega)];exact h j ((xd.1 hj).resolve_left hji) u hu
theorem ag4 {y:Nat->Value}{s:Nat}{v:Value}(h:y s=v):updF y s v=y:=by
 funext j;unfold updF;split
 ·rename_i e; rw [e,h]
 ·rfl
theorem aS1 {L:World}(fn:FuncId):QAll (env a x xs Shun N) L [(fn,[])]:=⟨fun C _ _ _=>⟨trivial,rfl⟩,fun e he=>by simp [bk8] at he,trivial⟩
theorem bf9 {L:World}(hl:LF (env a x xs Shun N) B0 L) (i:Nat) (v:Value) (hi:i<10) (T:TypeId) (hb:bxOf a (a.m+i)=some (.cells #[v] T (0,0))):QAll (env a x xs Shun N) L [(68,[.rd .plain ⟨a.m+i,0,none⟩ v])]:=by
 refine ⟨fun C hC _ _=>⟨⟨cell_of (hC _ _ hb),trivial⟩,rfl⟩,fun e he=>?_,trivial⟩;have:seen Try.prog 68 (esOf [.rd .plain ⟨a.m+i,0,none⟩ v]).toArray = #[⟨.cell ⟨a.m+i,0,none⟩,false,false⟩]:=by kernel_rfl
 rw [show (env a x xs Shun N).P=Try.prog from rfl,this] at he;simp at he;subst he;have hlow:a.m+10<=L.heap.size:=hl.low;exact ⟨cf4 ⟨_,hb⟩ (by omega),by simp,by simp⟩
theorem cb5 (hE:EOK (env a x xs Shun N) B0) {L:World}(hl:LF (env a x xs Shun N) B0 L) {ad:Addr}{v:Value}(hv:L.cell? ad=some v):QAll (env a x xs Shun N) L [(68,[.rd .plain ad v])]:=by
 refine ⟨fun C _ hw _=>⟨⟨(hw.cell hv).1,trivial⟩,rfl⟩,fun e he=>?_,trivial⟩;have:seen Try.prog 68 (esOf [.rd .plain ad v]).toArray = #[⟨.cell ad,false,false⟩]:=by kernel_rfl
 rw [show (env a x xs Shun N).P=Try.prog from rfl,this] at he;simp at he;subst he;exact ⟨b47 hE hl hv,by simp,by simp⟩
theorem bxV {i:Nat}:bxOf a (a.m+0)=some (.cells #[a.v0] 22 (0,0))/\bxOf a (a.m+1)=some (.cells #[.int .i64 a.i1] 3 (0,0))/\bxOf a (a.m+2)=some (.cells #[.int .i64 a.i2] 3 (0,0))/\bxOf a (a.m+3)=some (.cells #[a.v3] 46 (0,0))/\bxOf a (a.m+4)=some (.cells #[.int .i64 a.i4] 3 (0,0))/\bxOf a (a.m+6)=some (.cells #[a.V] 90 (0,0))/\bxOf a (a.m+8)=some (.cells #[a.chV] 117 (0,0)):=by
 refine ⟨?_,?_,?_,?_,?_,?_,?_⟩<;>simp [bxOf]
noncomputable def p1 (a:Ar) (ad:Addr) (k:Nat):Value:= .pointer (some (ad.add (k*1)))
noncomputable def p2 (a:Ar) (k:Nat):Value:= .pointer (some ((⟨a.m+5,0,none⟩:Addr).add (k*1)))
theorem bU4 (hE:EOK (env a x xs Shun N) B0) {ad:Addr}(hb3:a.b3=some ad) {k:Nat}(hk:k<a.n3) (h8:a.n3<=8) {v1:Value}{r:Option Value}{L:World}(hl:LF (env a x xs Shun N) B0 L) {i:Nat}(hi:i<10) (hvis:i=8->L.cell? (ad.add (k*1))=some v1) {D:List Nat}{y:Nat->Value}{l:List Nat}{nx:Nat}
  (hd:∀ o,opsW[i]?=some o->∀ e∈o.after,Region.binds .any e=true->e.on∈D) (hy:OKy (fv a (.int .i64 k) (p1 a ad k) v1 (p2 a k) r) D y)
  (K:∀ y',OKy (fv a (.int .i64 k) (p1 a ad k) v1 (p2 a k) r) (i::D) y'->TW a x xs Shun N B0 Post R1 nx (G (a.WO (.int .i64 k) y' l) [gx]) L):TW a x xs Shun N B0 Post R1 nx (G (a.WO (.int .i64 k) y (i::l)) [gx]) L:=by
 obtain ⟨b0,b1,b2,b3,b4,b6,b8⟩:=bxV (a:=a) (i:=0);have go:∀ {v:Value}{an:List An}{ds:List Did},(∀ u,fv a (.int .i64 k) (p1 a ad k) v1 (p2 a k) r i=some u->u=v)->oneG Try.prog false (a.WO (.int .i64 k) y (i::l),[gx]) an=some ((a.WO (.int .i64 k) (updF y (13+i) v) l,[gx]),ds)->QAll (env a x xs Shun N) L [(68,ds)]->TW a x xs Shun N B0 Post R1 nx (G (a.WO (.int .i64 k) y (i::l)) [gx]) L:=
  fun hv h1 hq=>WW.op (E:=env a x xs Shun N) hE rp1 (s:=(a.WO (.int .i64 k) y (i::l),[gx])) h1 hq (K _ (hy.set hv))
 have hcase:i=0\/i=1\/i=2\/i=3\/i=4\/i=5\/i=6\/i=7\/i=8\/i=9:=by omega
 rcases hcase with rfl | rfl | rfl | rfl | rfl | rfl | rfl | rfl | rfl | rfl
 ·exact go (v:=a.V) (fun u h=>(Option.some.inj h).symm) (op0_W a _ y l) (bf9 hl 6 _ (by omega) 90 b6)
 ·exact go (v:= .int .i64 k) (fun u h=>(Option.some.inj h).symm) (op1_W a _ y l) (aS1 _)
 ·exact go (v:=a.v0) (fun u h=>(Option.some.inj h).symm) (op2_W a _ y l) (bf9 hl 0 _ (by omega) 22 b0)
 ·exact go (v:= .int .i64 a.i1) (fun u h=>(Option.some.inj h).symm) (op3_W a _ y l) (bf9 hl 1 _ (by omega) 3 b1)
 ·exact go (v:= .int .i64 a.i2) (fun u h=>(Option.some.inj h).symm) (op4_W a _ y l) (bf9 hl 2 _ (by omega) 3 b2)
 ·exact go (v:=a.v3) (fun u h=>(Option.some.inj h).symm) (op5_W a _ y l) (bf9 hl 3 _ (by omega) 46 b3)
 ·exact go (v:= .int .i64 k) (fun u h=>(Option.some.inj h).symm) (op6_W a _ y l) (aS1 _)
 ·have h5:y 18=a.v3:=hy 5 (ai3 hd (by kernel_rfl)) _ rfl;have h6:y 19 = .int .i64 k:=hy 6 (ai3 hd (by kernel_rfl)) _ rfl;have h1:=op7_W a ad hb3 k hk h8 y l;rw [ag4 h5,ag4 h6] at h1;exact go (v:=p1 a ad k) (fun u h=>(Option.some.inj h).symm) h1 (aS1 _)
 ·have h7:y 20 = .pointer (some (ad.add (k*1))):=hy 7 (ai3 hd (by kernel_rfl)) _ rfl;have h1:=op8_W a (.int .i64 k) (ad.add (k*1)) v1 y l;rw [ag4 h7] at h1;exact go (v:=v1) (fun u h=>(Option.some.inj h).symm) h1 (cb5 hE hl (hvis rfl))
 ·exact go (v:= .int .i64 a.i4) (fun u h=>(Option.some.inj h).symm) (op9_W a _ y l) (bf9 hl 4 _ (by omega) 3 b4)
end
end Hid
namespace Hid
open Go Go.Proofs Go.RowKit Go.Conc Ar
open Go.ConcN (sumTo upd sumTo_upd upd_ne upd_same)
set_option maxRecDepth 100000
variable [Junk]
section
variable {a:Ar}{x:Frame}{xs:List Frame}{Shun:Loc->Prop}{N:Nat}{B0:Nat}{Post:Value->World->Prop}{f:FuncId}{Q:Value->World->Prop}
noncomputable def csT (x:Frame) (xs:List Frame):List Frame:=x::xs++[dmF twp]
def CsOK (x:Frame) (xs:List Frame):Prop:=∀ z∈x::xs,z.defers=[]/\(z.mode = .run\/z.mode = .returning)
theorem bX6 (k x26 x31 x33 x34 x35:Value) (i:Nat) (l:List Nat) (o:Oper) (h:bC3[i]?=some o) (hg:o.guard=none):AtOp (a.TO k x26 x31 x33 x34 x35 (i::l)) o:=⟨rfl,rfl,rfl,_,i,l,_,rfl,h,hg⟩
noncomputable def oSt:Oper:=op1 none (.store 92 (.tmp 35) (.tmp 33)) 0
noncomputable def oSp:Oper:=opsW.getD 12 default
theorem b32 (i:Nat) (h:aL8.fn i):Try.prog.funcs[i]?=twp.funcs[i]?:=by
 have h:jobF i=true:=h;unfold jobF at h;simp only [xe,beq_iff_eq] at h;rcases h with h | h
 ·subst h; exact (by kernel_rfl:Try.prog.funcs[70]?=twp.funcs[70]?)
 ·subst h; exact (by kernel_rfl:Try.prog.funcs[91]?=twp.funcs[91]?)
theorem bU5 (r:Loop):aL8.ok r<->noLoops.ok r:=uI
theorem bE5:¬ aL8.set:=fun h=>h
theorem bC4:@OpT aL8 twp Try.prog oSt:=@bS9 aL8 twp Try.prog.funcs false jobF (fun h=>by cases h) (fun h=>by cases h) (fun _ h=>h) (fun _ h=>h) oSt (by kernel_rfl)
theorem fin4 (k x26 x31 x33 x34 x35 v:Value):(a.TO k x26 x31 x33 x34 x35 [4]).finish v=a.TO k x26 x31 x33 x34 x35 []:=by kernel_rfl
theorem fin12 (k v:Value) (y:Nat->Value) (l:List Nat):(a.WO k y (12::l)).finish v=a.WO k y l:=by kernel_rfl
theorem fin10 (k v:Value) (y:Nat->Value) (l:List Nat):(a.WO k y (10::l)).finish v=a.WO k (updF y 23 v) l:=b07 a k v y l
theorem bW5 (hE:EOK (env a x xs Shun N) B0) (hG:GB twp B0) (hcs:CsOK x xs) {ad:Addr}(hb3:a.b3=some ad) {k:Nat}(hk:k<a.n3) (h8:a.n3<=8) {v1 r x34:Value}{x26:Value}{nx:Nat}{L:World}
  (K:∀ L',Tree twp (AtRet twp f Q) (G (a.TO (.int .i64 k) x26 v1 r x34 (p2 a k) []) (csT x xs)) L'->Later twp (G (a.TO (.int .i64 k) x26 v1 r x34 (p2 a k) [4]) (csT x xs)) L (G (a.TO (.int .i64 k) x26 v1 r x34 (p2 a k) []) (csT x xs)) L'->∀ y,TW a x xs Shun N B0 Post R1 nx (G (a.WO (.int .i64 k) y []) [gx]) L')
  (ht:Tree twp (AtRet twp f Q) (G (a.TO (.int .i64 k) x26 v1 r x34 (p2 a k) [4]) (csT x xs)) L) :
  ∀ (l D:List Nat) (y:Nat->Value),Sch opsW D l->10∈D->8∈D->OKy (fv a (.int .i64 k) (p1 a ad k) v1 (p2 a k) (some r)) D y->12 ∉ D->TW a x xs Shun N B0 Post R1 nx (G (a.WO (.int .i64 k) y l) [gx]) L:=by
 intro l;induction l with
 | nil=>
  intro D y hs _ _ _ hn;cases hs with
  | nil h=>exact absurd (h 12 (by rw [bA5]; omega)) hn
 | cons i l ih=>
  intro D y hs h10 h8' hy hn12;cases hs with
  | cons hi hn hd hk'=>
   rw [bA5] at hi;by_cases h9:i<10
   ·refine WW.facts (E:=env a x xs Shun N) fun hl=>?_
    refine bU4 hE hb3 hk h8 (v1:=v1) (r:=some r) hl h9 (fun e=>absurd (e▸h8') hn) hd hy fun y' hy'=>?_
    exact ih (i::D) y' hk' (by simp [h10]) (by simp [h8']) hy' (by simp; exact ⟨by omega,hn12⟩)
   ·have hc:i=10\/i=11\/i=12:=by omega
    rcases hc with rfl | rfl | rfl
    ·exact absurd h10 hn
    ·have h0:y 13=a.V:=hy 0 (ai3 hd (by kernel_rfl)) _ rfl;have h1:y 14 = .int .i64 k:=hy 1 (ai3 hd (by kernel_rfl)) _ rfl;have hop:=bT0 a k hk h8 y l;rw [ag4 h0,ag4 h1] at hop;refine WW.op (E:=env a x xs Shun N) hE rp1 (s:=(a.WO (.int .i64 k) y (11::l),[gx])) hop (aS1 _) ?_;exact ih (11::D) _ hk' (by simp [h10]) (by simp [h8']) (hy.set (i:=11) fun u h=>(Option.some.inj h).symm) (by simp [hn12])
    ·have hl0:l=[]:=by
      cases hk' with
      | nil _=>rfl
      | @cons _ j l' hj hjn _ _=>
       exfalso;rw [bA5] at hj;refine hjn (xd.2 ?_);have hc:j=12\/j=11\/j=10\/j=9\/j=8\/j=7\/j=6\/j=5\/j=4\/j=3\/j=2\/j=1\/j=0:=by omega
       rcases hc with rfl | rfl | rfl | rfl | rfl | rfl | rfl | rfl | rfl | rfl | rfl | rfl | rfl
       ·exact .inl rfl
       all_goals exact .inr (ai3 hd (by kernel_rfl))
     subst hl0;have h11:y 24=p2 a k:=hy 11 (ai3 hd (by kernel_rfl)) _ rfl;have h23:y 23=r:=hy 10 h10 _ rfl;refine WW.lock (inst:=noLoops) (E:=env a x xs Shun N) hE rp1 ⟨aL8⟩ aY0 bE5 bU5 hG (x:=a.TO (.int .i64 k) x26 v1 r x34 (p2 a k) [4]) (o:=oSt) (oy:=oSp) (bX6 _ _ _ _ _ _ _ _ _ (by kernel_rfl) rfl) ⟨rfl,rfl,rfl,opsW,12,[],_,rfl,by kernel_rfl,by kernel_rfl⟩ bC4 ?_ (zs:=x::xs) rfl hcs rfl ?_ ht ?_
     ·have e1:execOp (a.WO (.int .i64 k) y [12]).eval oSp=execOp (a.WO (.int .i64 k) (updF (updF y 24 (p2 a k)) 23 r) [12]).eval oSp:=by rw [ag4 h11,ag4 h23]
      exact e1.trans (by kernel_rfl)
     ·intro g args w w' es es' hc;have e2:execOp (a.TO (.int .i64 k) x26 v1 r x34 (p2 a k) [4]).eval oSt=(do Instr.storeAt 92 (p2 a k) r; pure .skip):=by kernel_rfl
      rw [e2] at hc;change ((Instr.storeAt 92 (p2 a k) r).bind fun _=>Sem.pure Next.skip).runT _ _ _=_ at hc
      rw [Sem.runT_bind'] at hc;split at hc
      ·cases hc
      ·cases hc
     ·intro v L' ht' hl';rw [fin4] at ht' hl';rw [fin12];exact K L' ht' hl' y
end
end Hid
namespace Hid
open Go Go.Proofs Go.RowKit Go.Conc Ar
open Go.ConcN (sumTo upd sumTo_upd upd_ne upd_same)
set_option maxRecDepth 100000
variable [Junk]
theorem bD8 {P:Program}{α:Type}{s:Sem α}:∀ {v:Value}{an:List An}{r:α ⊕ Halt}{m:Mode}{a:Addr}{l:List Did},runA P s (.v v::an)=some (r,.rd m a v::l)->∀ {w:World}{es:Array Event},(∀ at_,∃ x,w.farLoad P a at_ = .error x/\NiceH x)->w.cell? a=none->∃ x es',s.runT P w es=(.halt x w,es')/\NiceH x:=by
 induction s with
 | program k ih=>intro v an r m a l h w es hn hc; simp only [runA] at h; simp only [Sem.runT]; exact ih _ h hn hc
 | load m0 a0 k ih=>
  intro v an r m a l h w es hn hc;simp only [runA] at h;obtain ⟨l',h1,h2⟩:=ag2 h;simp only [List.cons.injEq,Did.rd.injEq] at h2;obtain ⟨⟨h3,h4,_⟩,_⟩:=h2;subst h3 h4;obtain ⟨x,hx,hN⟩:=hn (m== .atomic);refine ⟨x,es,?_,hN⟩;simp only [Sem.runT,hc,hx]
 | pure a0=>intro v an r m a l h; simp only [runA] at h; cases h
 | halt x=>intro v an r m a l h; simp only [runA] at h; cases h
 | store m0 a0 v0 k ih=>intro v an r m a l h; simp only [runA] at h; obtain ⟨l',_,h2⟩:=ag2 h; simp at h2
 | mark m0 k ih=>intro v an r m a l h; simp only [runA] at h; obtain ⟨l',_,h2⟩:=ag2 h; simp at h2
 | setObj r0 o k ih=>intro v an r m a l h; simp only [runA] at h; obtain ⟨l',_,h2⟩:=ag2 h; simp at h2
 | _=>intro v an r m a l h; simp only [runA] at h; cases h
theorem bp8 {p P:Program}{f:FuncId}{Q:Value->World->Prop}{fr:Frame}{zs:List Frame}{o:Oper}{v:Value}{an:List An}{r:Next ⊕ Halt}{m:Mode}{ad:Addr}{l:List Did}{L:World}(hx:AtOp fr o) (hd:fr.defers=[]) (hr:runA p (execOp fr.eval o) (.v v::an)=some (r,.rd m ad v::l))
  (hw:@WR noLoops _ L L) (hz:∀ z∈zs,z.defers=[]/\(z.mode = .run\/z.mode = .returning)) (ht:Tree p (AtRet p f Q) (G fr (zs++[dmF p])) L):∃ v1,L.cell? ad=some v1:=by
 cases hc:L.cell? ad with
 | some v1=>exact ⟨v1,rfl⟩
 | none=>
  exfalso;obtain ⟨g',L',es,e,ht',_⟩:=ht.goes (as6 hx.mode) L.drawn;have hearly:(fr.kind==CallKind.early)=false:=by rw [hx.kind]; rfl
  obtain ⟨x,es',hh,hN⟩:=bD8 hr (w:=L.at L.drawn) (es:=#[]) (fun b=>aY4 (C:=L) hw p ad b) hc;rw [hx.step] at e;unfold stepG.apply at e;simp only [hh,xf,hearly,lG,xj] at e;cases hN with
  | panic v=>
   simp only [ac9,GStep.go.injEq] at e;refine aL2 (P:=P) ht' ?_;rw [<-e.1];have:fr.raise [{ v,recovered:=false }]={ fr with mode:= .panicking [{ v,recovered:=false }] }:=by
    unfold Frame.raise;rw [hx.mode]
   rw [this];exact .fr rfl hd hz
  | uns u hu=>cases u<;>first | (simp [GStep.after] at e; done) | exact absurd rfl (hu _)
  | stuck s=>simp [GStep.after] at e
section
variable {a:Ar}{x:Frame}{xs:List Frame}{Shun:Loc->Prop}{N:Nat}{B0:Nat}{Post:Value->World->Prop}{f:FuncId}{Q:Value->World->Prop}
theorem WW.know {E:Env}{T:Nat->Trace->Prop}{st:Ph->Int}{R:Ph->Prop}{nx dn:Nat}{L:World}{b:Goroutine}(h:WR L L->WW E B0 T st R nx dn b L Post):WW E B0 T st R nx dn b L Post:=
 fun ph d a gs C sl t q hinv hr=>h hinv.wr.self ph d a gs C sl t q hinv hr
theorem fn70:∃ fn,twp.funcs[70]?=some fn:=Option.isSome_iff_exists.1 (by kernel_rfl)
theorem bG4 (args:Array Value):@FrOK aL8 twp Try.prog (Frame.enter twp 70 args .normal):=by
 obtain ⟨fn,h⟩:=fn70;exact @aI5 aL8 _ twp Try.prog aY0 70 (by show jobF 70=true; kernel_rfl) fn h args
noncomputable def bI2 (a:Ar) (v:Value):Array Value:=#[a.v0,.int .i64 a.i1,.int .i64 a.i2,v,.int .i64 a.i4]
theorem bM4 {k p1 v1 p2 r:Value}{D:List Nat}{y:Nat->Value}(h:OKy (fv a k p1 v1 p2 none) D y):OKy (fv a k p1 v1 p2 (some r)) (10::D) (updF y 23 r):=by
 intro j hj u hu;unfold updF;by_cases hj10:j=10
 ·subst hj10;rw [ln rfl];exact Option.some.inj hu
 ·rw [lr (by omega)];refine h j ((xd.1 hj).resolve_left hj10) u ?_;rw [<-hu];unfold fv;split<;>first | rfl | exact absurd rfl hj10
theorem bW6 (hE:EOK (env a x xs Shun N) B0) (hG:GB twp B0) (hcs:CsOK x xs) {ad:Addr}(hb3:a.b3=some ad) {k:Nat}(hk:k<a.n3) (h8:a.n3<=8) {v1 x33 x34 x35:Value}{nx:Nat}{L:World}(hvis:L.cell? (ad.add (k*1))=some v1)
  (K:∀ r L',Tree twp (AtRet twp f Q) (G (a.TO (.int .i64 k) (p1 a ad k) v1 r x34 (p2 a k) []) (csT x xs)) L'->Later twp (G (Frame.enter twp 70 (bI2 a v1) .normal) (a.TO (.int .i64 k) (p1 a ad k) v1 x33 x34 x35 [2,3,4]::csT x xs)) L (G (a.TO (.int .i64 k) (p1 a ad k) v1 r x34 (p2 a k) []) (csT x xs)) L'->∀ y,TW a x xs Shun N B0 Post R1 nx (G (a.WO (.int .i64 k) y []) [gx]) L')
  (ht:Tree twp (AtRet twp f Q) (G (Frame.enter twp 70 (bI2 a v1) .normal) (a.TO (.int .i64 k) (p1 a ad k) v1 x33 x34 x35 [2,3,4]::csT x xs)) L) :
  ∀ (l D:List Nat) (y:Nat->Value),Sch opsW D l->10 ∉ D->12 ∉ D->OKy (fv a (.int .i64 k) (p1 a ad k) v1 (p2 a k) none) D y->TW a x xs Shun N B0 Post R1 nx (G (a.WO (.int .i64 k) y l) [gx]) L:=by
 intro l;induction l with
 | nil=>
  intro D y hs h10 _ _;cases hs with
  | nil h=>exact absurd (h 10 (by rw [bA5]; omega)) h10
 | cons i l ih=>
  intro D y hs h10 h12 hy;cases hs with
  | cons hi hn hd hk'=>
   rw [bA5] at hi;by_cases h9:i<10
   ·refine WW.facts (E:=env a x xs Shun N) fun hl=>?_
    refine bU4 hE hb3 hk h8 (v1:=v1) (r:=none) hl h9 (fun _=>hvis) hd hy fun y' hy'=>?_
    exact ih (i::D) y' hk' (by simp; exact ⟨by omega,h10⟩) (by simp; exact ⟨by omega,h12⟩) hy'
   ·have hc:i=10\/i=11\/i=12:=by omega
    rcases hc with rfl | rfl | rfl
    ·have h2:y 15=a.v0:=hy 2 (ai3 hd (by kernel_rfl)) _ rfl;have h3:y 16 = .int .i64 a.i1:=hy 3 (ai3 hd (by kernel_rfl)) _ rfl;have h4:y 17 = .int .i64 a.i2:=hy 4 (ai3 hd (by kernel_rfl)) _ rfl;have h8d:8∈D:=ai3 hd (by kernel_rfl);have h88:y 21=v1:=hy 8 h8d _ rfl;have h99:y 22 = .int .i64 a.i4:=hy 9 (ai3 hd (by kernel_rfl)) _ rfl;have hop:=cb8 a (.int .i64 k) v1 y l;rw [ag4 h2,ag4 h3,ag4 h4,ag4 h88,ag4 h99] at hop;refine WW.op (E:=env a x xs Shun N) hE rp1 (s:=(a.WO (.int .i64 k) y (10::l),[gx])) hop (aS1 _) ?_;have hjob:=WW.job (inst:=noLoops) (E:=env a x xs Shun N) (B0:=B0) (st:=Ph.st) (R:=R1) (nx:=nx) (dn:=0) (Post:=Post) hE rp1 ⟨aL8⟩ aY0 bE5 bU5 hG b32 (f:=f) (Q:=Q) (c:=a.TO (.int .i64 k) (p1 a ad k) v1 x33 x34 x35 [2,3,4]) (csT:=csT x xs) (y:=a.WO (.int .i64 k) y (10::l)) (csP:=[gx]) (zs:=a.TO (.int .i64 k) (p1 a ad k) v1 x33 x34 x35 [2,3,4]::x::xs) (by simp [csT]) rfl (fun z hz=>by
      rcases xd.1 hz with rfl | hz
      ·exact ⟨rfl,.inl rfl⟩
      ·exact hcs z hz) ht (Frame.enter twp 70 (bI2 a v1) .normal) [] rfl (bG4 _) (by simp) ?_
     ·rw [<-b49];exact hjob
     ·intro r L' ht' hl';rw [ret_T] at ht' hl';rw [fin10];have hiy:=iy_T a k hk h8 (csT x xs) (p1 a ad k) v1 r x34 x35;obtain ⟨ht2,hl2⟩:=ad7 1 hiy (L:=L') trivial ht';exact bW5 hE hG hcs hb3 hk h8 (fun L2 ht3 hl3 y'=>K r L2 ht3 (hl'.trans (hl2.trans hl3)) y') ht2 l (10::D) _ hk' (by simp) (by simp [h8d]) (bM4 hy) (by simp [h12])
    ·have h0:y 13=a.V:=hy 0 (ai3 hd (by kernel_rfl)) _ rfl;have h1:y 14 = .int .i64 k:=hy 1 (ai3 hd (by kernel_rfl)) _ rfl;have hop:=bT0 a k hk h8 y l;rw [ag4 h0,ag4 h1] at hop;refine WW.op (E:=env a x xs Shun N) hE rp1 (s:=(a.WO (.int .i64 k) y (11::l),[gx])) hop (aS1 _) ?_;exact ih (11::D) _ hk' (by simp [h10]) (by simp [h12]) (hy.set (i:=11) fun u h=>(Option.some.inj h).symm)
    ·exact absurd (ai3 hd (by kernel_rfl)) h10
end
end Hid
namespace Hid
open Go Go.Proofs Go.RowKit Go.Conc Ar
open Go.ConcN (sumTo upd sumTo_upd upd_ne upd_same)
set_option maxRecDepth 100000
variable [Junk]
noncomputable def oIx:Oper:=bC3.getD 0 default
noncomputable def oLd:Oper:=bC3.getD 1 default
theorem ix_op (a:Ar) (hb:a.b3=none) (k x26 x31 x33 x34 x35:Value):execOp (a.TO k x26 x31 x33 x34 x35 [0,1,2,3,4]).eval oIx=(Instr.indexAt 46 (.slice none a.n3 a.c3) k).bind fun v=>Sem.pure (Next.value v):=by
 obtain ⟨b0,n0,c0,i1,i2,b3,n3,c3,i4,m,w,rest⟩:=a;simp only at hb
 subst hb;kernel_rfl
theorem und46:twp.underlying 46=some (.slice 3):=by kernel_rfl
theorem b34 (a:Ar) (hb:a.b3=none) (k:Nat) (x26 x31 x33 x34 x35:Value) (w:World):∃ v w' es,(execOp (a.TO (.int .i64 k) x26 x31 x33 x34 x35 [0,1,2,3,4]).eval oIx).runT twp w #[]=(.halt (.panic v) w',es):=by
 have h1:∃ v w',(Instr.indexAt 46 (.slice none a.n3 a.c3) (.int .i64 k)).run twp w = .halt (.panic v) w':=by
  obtain ⟨s,w',h⟩:=run_boundsPanic (P:=twp) (w:=w) (α:=Value) .i64 k 0 .index;exact ⟨_,w',(Go.Lib.run_indexAt_nil w 46 3 a.n3 a.c3 .i64 k und46).trans h⟩
 obtain ⟨v,w',h⟩:=h1;rw [ix_op a hb,Sem.runT_bind'];rw [<-Sem.runT_fst twp _ w #[]] at h;cases hr:(Instr.indexAt 46 (.slice none a.n3 a.c3) (.int .i64 k)).runT twp w #[] with
 | mk r es=>
  rw [hr] at h;simp only at h
  subst h;exact ⟨v,w',es,rfl⟩
theorem be6 {p P:Program}{f:FuncId}{Q:Value->World->Prop}{fr:Frame}{o:Oper}{zs:List Frame}{L:World}(hx:AtOp fr o) (hd:fr.defers=[]) (hr:∀ w,∃ v w' es,(execOp fr.eval o).runT p w #[]=(.halt (.panic v) w',es)) (hz:∀ z∈zs,z.defers=[]/\(z.mode = .run\/z.mode = .returning))
  (ht:Tree p (AtRet p f Q) (G fr (zs++[dmF p])) L):False:=by
 obtain ⟨g',L',es,e,ht',_⟩:=ht.goes (as6 hx.mode) L.drawn;have hearly:(fr.kind==CallKind.early)=false:=by rw [hx.kind]; rfl
 obtain ⟨v,w',es',hs⟩:=hr (L.at L.drawn);rw [hx.step] at e;unfold stepG.apply at e;simp only [hs,aq1,xf,hearly,lG,xj,ac9,GStep.go.injEq] at e;refine aL2 (P:=P) ht' ?_;rw [<-e.1];have:fr.raise [{ v,recovered:=false }]={ fr with mode:= .panicking [{ v,recovered:=false }] }:=by
  unfold Frame.raise;rw [hx.mode]
 rw [this];exact .fr rfl hd hz
theorem ld_A (a:Ar) (k x31 x33 x34 x35 v:Value) (ad:Addr):runA twp (execOp (a.TO k (.pointer (some ad)) x31 x33 x34 x35 [1,2,3,4]).eval oLd) [.v v]=some (.inl (.value v),[.rd .plain ad v]):=by kernel_rfl
theorem g_ix:oIx.guard=none:=by kernel_rfl
theorem g_ld:oLd.guard=none:=by kernel_rfl
section
variable {a:Ar}{x:Frame}{xs:List Frame}{Shun:Loc->Prop}{N:Nat}{B0:Nat}{Post:Value->World->Prop}{f:FuncId}{Q:Value->World->Prop}
theorem bW4 (hE:EOK (env a x xs Shun N) B0) (hG:GB twp B0) (hcs:CsOK x xs) (h8:a.n3<=8) {g0:Goroutine}{L0:World}
  (HPX:∀ x26 x30 x31 x33 x34 x35 L,Tree twp (AtRet twp f Q) (G (a.TB a.n3 x26 x30 x31 x33 x34 x35) (csT x xs)) L->Later twp g0 L0 (G (a.TB a.n3 x26 x30 x31 x33 x34 x35) (csT x xs)) L->PXL a x xs Shun N B0 Post L) :
  ∀ (j k:Nat),k+j=a.n3->∀ (x26 x30 x31 x33 x34 x35:Value) (L:World),Tree twp (AtRet twp f Q) (G (a.TB k x26 x30 x31 x33 x34 x35) (csT x xs)) L->Later twp g0 L0 (G (a.TB k x26 x30 x31 x33 x34 x35) (csT x xs)) L->
   ∀ (x8 x10 x11 x12:Value) (y:Nat->Value),TW a x xs Shun N B0 Post R1 k (G (a.WRc x8 x10 x11 x12 y) [gx]) L:=by
 intro j;induction j with
 | zero=>
  intro k hk x26 x30 x31 x33 x34 x35 L ht hl x8 x10 x11 x12 y;obtain rfl:k=a.n3:=by omega
  refine WW.recv (E:=env a x xs Shun N) hE (al1 hE.ap) (s:=(a.WRc x8 x10 x11 x12 y,[gx])) (z:=z0) (fun C _ _=>ai0 (bS7 a x8 x10 x11 x12 y) (w:=C) trivial) (fun h=>absurd h (ul _)) fun _=>?_
  rw [cf0];refine WW.run (E:=env a x xs Shun N) hE rp2 5 (s:=(a.WR1 x8 (.tuple #[z0,.bool false]) x11 x12 y,[gx])) (ca4 a x8 x11 x12 y) trivial ?_;exact b73 hE (HPX _ _ _ _ _ _ L ht hl) x8 x12 y
 | succ j ih=>
  intro k hk x26 x30 x31 x33 x34 x35 L ht hl x8 x10 x11 x12 y;have hk3:k<a.n3:=by omega
  have hrB:=bS4 a (csT x xs) (k:Int) x26 x30 x31 x33 x34 x35;rw [lk (show (k:Int)<(a.n3:Int) by omega)] at hrB;obtain ⟨ht1,hl1⟩:=ad7 3 hrB (L:=L) trivial ht;obtain ⟨ht2,hl2⟩:=ad7 6 (ca5 a (csT x xs) (k:Int) x26 x31 x33 x34 x35) (L:=L) trivial ht1;refine WW.recv (E:=env a x xs Shun N) hE (al1 hE.ap) (s:=(a.WRc x8 x10 x11 x12 y,[gx])) (z:=z0) (fun C _ _=>ai0 (bS7 a x8 x10 x11 x12 y) (w:=C) trivial) (fun _=>?_) (fun h=>absurd h (Nat.ne_of_lt hk3));rw [cf0];refine WW.run (E:=env a x xs Shun N) hE rp1 11 (s:=(a.WR1 x8 (.tuple #[.int .i64 k,.bool true]) x11 x12 y,[gx])) (ca7 a k x8 x11 x12 y) trivial ?_;refine WW.draw (E:=env a x xs Shun N) hE (al1 hE.ap) rp1 (fr:=a.WJ (.int .i64 k) y) (id:=4) (ops:=opsW) (k:= .inBlock 1::itW) rfl (congrArg (fun c=>Item.code c:: .inBlock 1::itW) bW7) fun n=>?_
  have hsch:=b97 acycW bP2 ((env a x xs Shun N).P.follows .mixedOrders) n;cases hb3:a.b3 with
  | none=>
   exfalso;exact be6 (P:=Try.prog) (zs:=x::xs) (bX6 _ _ _ _ _ _ _ _ oIx (by kernel_rfl) g_ix) rfl (fun w=>b34 a hb3 k x26 x31 x33 x34 x35 w) hcs ht2
  | some ad=>
   obtain ⟨ht3,hl3⟩:=ad7 1 (ix_T a ad hb3 k hk3 h8 (csT x xs) x26 x31 x33 x34 x35) (L:=L) trivial ht2;refine WW.know (E:=env a x xs Shun N) fun hn=>?_
   obtain ⟨v1,hv1⟩:=bp8 (P:=Try.prog) (zs:=x::xs) (bX6 _ _ _ _ _ _ _ _ oLd (by kernel_rfl) g_ld) rfl (ld_A a (.int .i64 k) x31 x33 x34 x35 undef (ad.add (k*1))) hn hcs ht3;obtain ⟨ht4,hl4⟩:=ad7 1 (ld_T a (csT x xs) (.int .i64 k) x31 x33 x34 x35 v1 (ad.add (k*1))) (L:=L) ⟨⟨hv1,trivial⟩,trivial⟩ ht3;obtain ⟨ht5,hl5⟩:=ad7 1 (cg1 a (csT x xs) (.int .i64 k) (p1 a ad k) v1 x33 x34 x35) (L:=L) trivial ht4;refine bW6 hE hG hcs hb3 hk3 h8 hv1 (fun r L' ht6 hl6 y'=>?_) ht5 _ [] y hsch (by simp) (by simp) (fun i hi=>by cases hi);have hrD:=ca3 a (csT x xs) (k:Int) (p1 a ad k) v1 r x34 (p2 a k);rw [bQ6 (by omega)] at hrD;obtain ⟨ht7,hl7⟩:=ad7 6 hrD (L:=L') trivial ht6;refine WW.run (E:=env a x xs Shun N) hE rp1 5 (s:=(a.WO (.int .i64 k) y' [],[gx])) (cb7 a (.int .i64 k) y') trivial ?_;exact ih (k+1) (by omega) _ _ _ _ _ _ L' ht7 (hl.trans (hl1.trans (hl2.trans (hl3.trans (hl4.trans (hl5.trans (hl6.trans hl7))))))) _ _ _ _ _
end
end Hid
namespace Hid
open Go Go.Proofs Go.RowKit Go.Conc Ar
open Go.ConcN (sumTo upd sumTo_upd upd_ne upd_same)
set_option maxRecDepth 100000
variable [Junk]
section
variable {a:Ar}{x:Frame}{xs:List Frame}{Shun:Loc->Prop}{N:Nat}{B0:Nat}{Post:Value->World->Prop}{f:FuncId}{Q:Value->World->Prop}
theorem b85 {A:Area}{B d:Nat}(hA:Apart A) {es:Array Event}(he:∀ e∈es,Ev0 A B e) (t:Trace) (fn:FuncId) (pos:String) (h:T0 A B d t):T0 A B (deafBehind d es) (t++MemOp.ofEvents 0 fn pos es):=by
 obtain ⟨⟨r,h⟩,hd⟩:=h;exact ⟨⟨r,h.app0 hA (lf _) ae1 (ar3 he).1 (ar3 he).2⟩,by rw [Deaf_own,hd]⟩
theorem sn_en:seen Try.prog 71 (esOf [.mk (.extern 80),.mk .enable]).toArray = #[mkE .enable]:=by kernel_rfl
theorem sn_sh (a:Ar):seen Try.prog 71 (esOf a.dShW).toArray = #[]:=by kernel_rfl
theorem sn_ac (a:Ar):seen Try.prog 71 (esOf [.mk (.extern 92),.mk (.acquire ⟨a.m+9,0,none⟩)]).toArray = #[mkE (.acquire ⟨a.m+9,0,none⟩)]:=by kernel_rfl
theorem sn_rd (a:Ar):seen Try.prog 49 (esOf [.rd .plain ⟨a.m+6,0,none⟩ a.V]).toArray = #[⟨.cell ⟨a.m+6,0,none⟩,false,false⟩]:=by kernel_rfl
theorem sn_87 (a:Ar):seen Try.prog 87 (esOf [.mk (.extern 117),a.rdW 0]).toArray = #[rdE (a.m+9) 0]:=by kernel_rfl
theorem b57:deafBehind 1 #[mkE .enable]=0:=by rfl
theorem b56 (a:Ar):deafBehind 1 #[rdE (a.m+9) 0]=1:=by rfl
theorem bd7 {C:World}(hE:EOK (env a x xs Shun N) B0) (hS:∀ l,Shun l->∃ ad,l = .cell ad/\ad.block<a.m) (hb:FB (bxOf a) C) (hw:WgS (a.m+9) 127 C 0 0) {B:Nat}(hB:a.m+10<=B) {K:World->(Trace->Prop)->Prop}(hK:∀ d,K (C.at d) (Past (env a x xs Shun N).A.bA6 B)) :
  aO8 Try.prog a.endL (T0 (env a x xs Shun N).A B 1) C K:=by
 refine ⟨fun d=>⟨trivial,trivial,trivial⟩,T0 (env a x xs Shun N).A B 0,az4,fun t fn pos ht=>?_,fun d=>?_⟩
 ·rw [sn_en];have:=b85 (d:=1) hE.ap (es:=#[mkE .enable]) (fun e he=>by simp at he; subst he; exact bn7 rfl (by simp) trivial) t fn pos ht
  rw [b57] at this;exact this
 refine ⟨fun d=>?_,T0 (env a x xs Shun N).A B 0,az4,fun t fn pos ht=>?_,fun d=>?_⟩
 ·have:=(af6 hw).2.2.1
  exact ⟨this,this,trivial⟩
 ·rw [sn_sh,ofEvents_none];simpa using ht
 refine ⟨fun d=>⟨trivial,trivial,trivial⟩,Past (env a x xs Shun N).A.bA6 B,ad4,fun t fn pos ht=>?_,fun d=>?_⟩
 ·rw [sn_ac];obtain ⟨⟨r,ht⟩,hd⟩:=ht;have:=ht.acquire (show a.m+9<B by omega) hd fn pos
  rw [ofEvents_eq];simp only [List.map_toArray,xH,List.map_nil];exact this
 refine ⟨fun d=>⟨cell_of (T:=90) (hb (a.m+6) _ (by simp [bxOf])),trivial⟩,Past (env a x xs Shun N).A.bA6 B,ad4,fun t fn pos ht=>?_,fun d=>hK _⟩
 ·rw [sn_rd];refine ht.own fun e he=>?_
  simp at he;subst he;refine evL_cell _ _ (fun hs=>?_) (show a.m+6<B by omega);rcases hs with hs | ⟨ad,e,hs⟩
  ·obtain ⟨ad,e,hlt⟩:=hS _ hs;cases e;simp at hlt;omega
  ·cases e;have hs:a.m+6=a.m+9:=hs;omega
theorem pxl (hE:EOK (env a x xs Shun N) B0) (hS:∀ l,Shun l->∃ ad,l = .cell ad/\ad.block<a.m) (hx:@FrOK noLoops twp Try.prog x) (hxs:∀ z∈xs,@FrOK noLoops twp Try.prog z) {L:World}(hcl:@Claim noLoops _ twp Try.prog B0 Post (G (x.finish a.V) (xs++[dmF twp])) L):PXL a x xs Shun N B0 Post L:=by
 intro f d s hpx gs C sl t q h;obtain ⟨rfl,n,ans,ls,hr,hls⟩:=hpx;have hlow:a.m+10<=L.heap.size:=h.low;have hsz:C.heap.size=L.heap.size:=h.wr.size;have hB0:B0<=a.m+9:=hE.w0;have fin:∀ (C':World),(∃ d,C'=C.at d)->∀ d gs' sl' t' q',gs'.size=gs.size->gs'[0]?=some (G (x.finish a.V) xs)->Leavers Try.prog t' gs' q'->Past (env a x xs Shun N).A.bA6 C.heap.size t'->Wins Try.prog Post (crowd gs' (C'.at d) sl') t':=by
  rintro C' ⟨d0,rfl⟩ d gs' sl' t' q' _ g0 hl hp;refine hcl (x.finish a.V) xs rfl (as9 hx _) hxs _ _ gs' _ sl' t' q' ⟨hl,hp,⟨h.wr.os,h.wr.out,h.wr.size,h.wr.blk,h.wr.nv,h.wr.np,h.wr.lp⟩,by omega,fun l hl=>?_,h.tape,h.old,by omega⟩ g0;rcases hl with hl | ⟨ad,rfl,hl⟩
  ·exact h.shun l hl
  ·obtain ⟨T,fz,hh⟩:=h.hidw;exact ⟨ad,T,fz,rfl,by rw [hl]; exact hh⟩
 refine aW7 n hr (N:=gs.size) (T:=T0 (env a x xs Shun N).A C.heap.size 1) az4 rfl h.g0 h.lv ⟨h.tr,h.d0⟩ fun d=>?_
 rcases hls with rfl | rfl
 ·exact bd7 (C:=C.at d) hE hS h.bx h.wg (by omega) fun d2=>fin _ ⟨d2,rfl⟩
 ·refine ⟨fun e=>⟨trivial,(af6 h.wg).1,trivial⟩,T0 (env a x xs Shun N).A C.heap.size 1,az4,fun t fn pos ht=>?_,fun e=>?_⟩
  ·rw [sn_87];have:=b85 (d:=1) hE.ap (es:=#[rdE (a.m+9) 0]) (fun e he=>by simp at he; subst he; exact aN6 (show a.m+9<C.heap.size by omega) 0 false) t fn pos ht
   rw [b56] at this;exact this
  ·exact bd7 (C:=C.at e) hE hS h.bx h.wg (by omega) fun d2=>fin _ ⟨d2,rfl⟩
end
end Hid
namespace Hid
open Go Go.Proofs Go.RowKit Go.Conc Ar
open Go.ConcN (sumTo upd sumTo_upd upd_ne upd_same)
set_option maxRecDepth 100000
variable [Junk]
structure Gr (w0:World) (os:List Obj) (w:World):Prop where
 heap:w.heap=w0.heap++os.toArray
 sys:w.os=w0.os
 out:w.output=w0.output
 tape:w.tape=w0.tape
section
variable {w0 w:World}{os:List Obj}
theorem Gr.self (w0:World):Gr w0 [] w0:=⟨by simp,rfl,rfl,rfl⟩
theorem Gr.size (h:Gr w0 os w):w.heap.size=w0.heap.size+os.length:=by rw [h.heap]; simp
theorem Gr.get (h:Gr w0 os w) (i:Nat):w.heap[w0.heap.size+i]?=os[i]?:=by
 rw [h.heap,xl (by omega)];simp
theorem Gr.old (h:Gr w0 os w) {b:Nat}(hb:b<w0.heap.size):w.heap[b]?=w0.heap[b]?:=by rw [h.heap,xp hb]
theorem Gr.push (h:Gr w0 os w) (o:Obj):Gr w0 (os++[o]) { w with heap:=w.heap.push o }:=⟨by simp [h.heap],h.sys,h.out,h.tape⟩
theorem Gr.at (h:Gr w0 os w) (d:Nat):Gr w0 os (w.at d):=⟨h.heap,h.sys,h.out,h.tape⟩
theorem Gr.set (h:Gr w0 os w) {i off:Nat}{v:Value}{c:Array Value}{T:TypeId}{fz:Nat×Nat}(hi:os[i]?=some (.cells c T fz)):Gr w0 (os.set i (.cells (c.setIfInBounds off v) T fz)) (w.setCell ⟨w0.heap.size+i,off,none⟩ v):=by
 refine ⟨?_,h.sys,h.out,h.tape⟩;have hsz:(w.setCell ⟨w0.heap.size+i,off,none⟩ v).heap.size=w.heap.size:=by simp [World.setCell]
 refine Array.ext_getElem? fun b=>?_
 rw [heap_set];by_cases hb:b=w0.heap.size+i
 ·subst hb;rw [ln rfl,h.get,hi,xl (by omega)];have hlt:i<os.length:=(lR.1 hi).1;simp [hlt]
 ·rw [lr hb,h.heap];by_cases hlt:b<w0.heap.size
  ·rw [xp hlt,xp hlt]
  ·rw [xl (by omega),xl (by omega)];simp;rw [List.getElem?_set_ne (by omega)]
theorem Gr.cell (h:Gr w0 os w) {i off:Nat}{c:Array Value}{T:TypeId}{fz:Nat×Nat}{v:Value}(hi:os[i]?=some (.cells c T fz)) (hc:c[off]?=some v):w.cell? ⟨w0.heap.size+i,off,none⟩=some v:=by
 have:=h.get i
 rw [hi] at this;simp [World.cell?,this,hc]
theorem Gr.frozen (h:Gr w0 os w) {i off:Nat}{c:Array Value}{T:TypeId}(hi:os[i]?=some (.cells c T (0,0))):w.frozen? ⟨w0.heap.size+i,off,none⟩=false:=by
 have:=h.get i
 rw [hi] at this;simp [World.frozen?,this]
variable [LoopOK] {P:Program}{K:World->(Trace->Prop)->Prop}{r:List (FuncId×List Did)}{f:FuncId}
theorem aQ8 {T:Trace->Prop}(hT:be1 T) (h:Gr w0 os w) {o:Obj}{n:Nat}(hn:n=w0.heap.size+os.length) (k:∀ w',Gr w0 (os++[o]) w'->aO8 P r T w' K):aO8 P ((f,[.nw o n])::r) T w K:=
 ⟨fun d=>⟨(h.at d).size.trans hn.symm,trivial⟩,T,hT,fun t fn pos ht=>by rw [show seen P f (esOf [.nw o n]).toArray = #[] from rfl,ofEvents_none]; simpa using ht,fun d=>k _ ((h.at d).push o)⟩
theorem al_rd {Shun:Loc->Prop}{B:Nat}(h:Gr w0 os w) {i off:Nat}{c:Array Value}{T:TypeId}{fz:Nat×Nat}{v:Value}(hi:os[i]?=some (.cells c T fz)) (hc:c[off]?=some v) (hs:seen P f (esOf [.rd .plain ⟨w0.heap.size+i,off,none⟩ v]).toArray = #[⟨.cell ⟨w0.heap.size+i,off,none⟩,false,false⟩])
  (hS:¬ Shun (.cell ⟨w0.heap.size+i,off,none⟩)) (hB:w0.heap.size+i<B) (k:∀ w',Gr w0 os w'->aO8 P r (Past Shun B) w' K):aO8 P ((f,[.rd .plain ⟨w0.heap.size+i,off,none⟩ v])::r) (Past Shun B) w K:=
 ⟨fun d=>⟨(h.at d).cell hi hc,trivial⟩,Past Shun B,ad4,fun t fn pos ht=>by rw [hs]; exact ht.own fun e he=>by simp at he; subst he; exact evL_cell _ _ hS hB,fun d=>k _ (h.at d)⟩
theorem cg4 {Shun:Loc->Prop}{B:Nat}(h:Gr w0 os w) {i off:Nat}{c:Array Value}{T:TypeId}{v u:Value}(hi:os[i]?=some (.cells c T (0,0))) (hc:c[off]?=some u) (hv:(∀ x,v≠.agg x)/\∀ x,v≠.tuple x) (hs:seen P f (esOf [.wr .plain ⟨w0.heap.size+i,off,none⟩ v]).toArray = #[⟨.cell ⟨w0.heap.size+i,off,none⟩,true,false⟩])
  (hS:¬ Shun (.cell ⟨w0.heap.size+i,off,none⟩)) (hB:w0.heap.size+i<B) (k:∀ w',Gr w0 (os.set i (.cells (c.setIfInBounds off v) T (0,0))) w'->aO8 P r (Past Shun B) w' K):aO8 P ((f,[.wr .plain ⟨w0.heap.size+i,off,none⟩ v])::r) (Past Shun B) w K:=
 ⟨fun d=>⟨⟨⟨_,(h.at d).cell hi hc⟩,(h.at d).frozen hi,hv.1,hv.2⟩,trivial⟩,Past Shun B,ad4,fun t fn pos ht=>by rw [hs]; exact ht.own fun e he=>by simp at he; subst he; exact evL_cell _ _ hS hB,fun d=>k _ ((h.at d).set hi)⟩
end
def nwL (f:FuncId):Nat->List Obj->List (FuncId×List Did)
 | _,[]=>[]
 | r,o::l=>(f,[.nw o r])::nwL f (r+1) l
theorem bn5 {w0:World}{f:FuncId}:∀ (l os:List Obj) (w:World) (r:Nat),Gr w0 os w->r=w0.heap.size+os.length->bQ4 (nwL f r l) w/\Gr w0 (os++l) (wL (nwL f r l) w)
 | [],os,w,r,h,_=>⟨trivial,by simpa [nwL,wL] using h⟩
 | o::l,os,w,r,h,hr=>by
  obtain ⟨h1,h2⟩:=bn5 (f:=f) l (os++[o]) _ (r+1) (h.push o) (by simp; omega);refine ⟨⟨⟨h.size.trans hr.symm,trivial⟩,h1⟩,?_⟩;rw [show os++o::l=os++[o]++l by simp];exact h2
theorem nt49:((Try.prog.funcs[49]?).map (·.ntmps)).getD 0=38:=by kernel_rfl
theorem nt49T:((twp.funcs[49]?).map (·.ntmps)).getD 0=38:=by kernel_rfl
theorem bd49 (c:Code):((Try.prog.funcs[49]?).bind (·.body)).getD c=c49:=by kernel_rfl
theorem bd49T (c:Code):((twp.funcs[49]?).bind (·.body)).getD c=as4:=by kernel_rfl
theorem b50 (args:Array Value):∃ l:List Value,38<=l.length/\Frame.enter Try.prog 49 args .normal=fr ⟨l⟩ [.code c49]/\Frame.enter twp 49 args .normal=fr ⟨l⟩ [.code as4]:=by
 refine ⟨(args++Array.replicate (38-args.size) undef).toList,?_,?_,?_⟩
 ·simp; omega
 ·unfold Frame.enter fr;simp only [nt49,bd49]
 ·unfold Frame.enter fr;simp only [nt49T,bd49T]
theorem bZ8 (l:List Value) (h:38<=l.length):∃ (w:Nat->Value) (rest:List Value),l=w 0::w 1::w 2::w 3::w 4::w 5::w 6::w 7::w 8::w 9::w 10::w 11::w 12::w 13::w 14::w 15::w 16::w 17::w 18::w 19::w 20::w 21::w 22::w 23::w 24::w 25::w 26::w 27::w 28::w 29::w 30::w 31::w 32::w 33::w 34::w 35::w 36::w 37::rest:=by
 refine ⟨fun i=>l.getD i undef,l.drop 38,?_⟩;have key:l=(List.range 38).map (fun i=>l.getD i undef)++l.drop 38:=by
  refine List.ext_getElem? fun i=>?_
  by_cases hi:i<38
  ·rw [xh (by simpa using hi),lT,um hi,lD (by omega)];simp [la,lD (show i<l.length by omega)]
  ·rw [lQ (by simp; omega),xw];simp;congr 1;omega
 exact key
end Hid
namespace Hid
open Go Go.Proofs Go.RowKit Go.Conc Ar
open Go.ConcN (sumTo upd sumTo_upd upd_ne upd_same)
set_option maxRecDepth 100000
variable [Junk]
section
variable {a:Ar}{x:Frame}{xs:List Frame}{Shun:Loc->Prop}{N:Nat}{B0:Nat}{Post:Value->World->Prop}{f:FuncId}{Q:Value->World->Prop}
noncomputable def osP (a:Ar) (st:Value):List Obj:=[.cells #[a.v0] 22 (0,0),.cells #[.int .i64 a.i1] 3 (0,0),.cells #[.int .i64 a.i2] 3 (0,0),.cells #[a.v3] 46 (0,0),.cells #[.int .i64 a.i4] 3 (0,0),.cells (Array.replicate a.n3 nul) 92 (0,0),.cells #[a.V] 90 (0,0),.chan 0 #[] false 0 0 false,.cells #[a.chV] 117 (0,0),.cells #[st,.int .u32 0] 127 (0,0)]
noncomputable def osT (a:Ar):List Obj:=[.cells #[] 22 (0,0),.cells #[] 3 (0,0),.cells #[] 3 (0,0),.cells #[] 46 (0,0),.cells #[] 3 (0,0),.cells (Array.replicate a.n3 nul) 92 (0,0),.cells #[] 90 (0,0),.chan 0 #[] false 0 0 false,.cells #[] 117 (0,0),.cells #[] 127 (0,0)]
theorem bP1 (a:Ar):a.b54=nwL 49 a.m (osT a):=rfl
theorem s49r (ad:Addr) (v:Value):seen Try.prog 49 (esOf [.rd .plain ad v]).toArray = #[⟨.cell ad,false,false⟩]:=by kernel_rfl
theorem s49w (ad:Addr) (v:Value):seen Try.prog 49 (esOf [.wr .plain ad v]).toArray = #[⟨.cell ad,true,false⟩]:=by kernel_rfl
theorem b64 {C:World}{B:Nat}(hm:a.m=C.heap.size) (hB:a.m+9<=B) (hS:∀ l,Shun l->∃ ad,l = .cell ad/\ad.block<a.m) {K:World->(Trace->Prop)->Prop}(hK:∀ C',Gr C (osP a (.int .u64 0)) C'->K C' (Past Shun B)):∀ C0,Gr C [] C0->aO8 Try.prog a.b55 (Past Shun B) C0 K:=by
 intro C0 h0;have hns:∀ i off,¬ Shun (.cell ⟨C.heap.size+i,off,none⟩):=fun i off hs=>by
  obtain ⟨ad,e,hlt⟩:=hS _ hs;cases e;simp at hlt;omega
 unfold b55;rw [hm];refine aQ8 ad4 h0 (by simp) fun C1 h1=>?_
 refine aQ8 ad4 h1 (by simp) fun C2 h2=>?_
 refine aQ8 ad4 h2 (by simp) fun C3 h3=>?_
 refine aQ8 ad4 h3 (by simp) fun C4 h4=>?_
 refine aQ8 ad4 h4 (by simp) fun C5 h5=>?_
 refine al_rd h5 (i:=3) (off:=0) rfl rfl (s49r _ _) (hns _ _) (by omega) fun C6 h6=>?_
 refine aQ8 ad4 h6 (by simp) fun C7 h7=>?_
 refine aQ8 ad4 h7 (by simp) fun C8 h8=>?_
 refine cg4 h8 (i:=6) (off:=0) rfl rfl ⟨fun _ e=>(by cases e),fun _ e=>(by cases e)⟩ (s49w _ _) (hns _ _) (by omega) fun C9 h9=>?_
 refine aQ8 ad4 h9 (by simp) fun C10 h10=>?_
 refine aQ8 ad4 h10 (by simp) fun C11 h11=>?_
 refine cg4 h11 (i:=8) (off:=0) rfl rfl ⟨fun _ e=>(by cases e),fun _ e=>(by cases e)⟩ (s49w _ _) (hns _ _) (by omega) fun C12 h12=>?_
 refine aQ8 ad4 h12 (by simp) fun C13 h13=>?_
 refine hK C13 ?_;have e7:a.chV = .chan (some (C.heap.size+7)):=by unfold chV; rw [hm]
 unfold osP;rw [e7];exact h13
theorem sB1:seen Try.prog 67 (esOf [.mk (.extern 79),.mk .disable]).toArray = #[mkE .disable]:=by kernel_rfl
theorem sB2:seen Try.prog 67 (esOf [.mk (.extern 81)]).toArray = #[]:=by kernel_rfl
theorem sB3 (a:Ar):seen Try.prog 85 (esOf [.mk (.extern 116),.rd .atomic ⟨a.m+9,0,none⟩ (.int .u64 0),.wr .atomic ⟨a.m+9,0,none⟩ KV]).toArray = #[rdE (a.m+9) 0,wrE (a.m+9) 0]:=by kernel_rfl
theorem sB4 (a:Ar):seen Try.prog 67 (esOf a.dShW).toArray = #[]:=by kernel_rfl
theorem sB5 (a:Ar):seen Try.prog 67 (esOf [.mk (.extern 86),.mk (.read ⟨a.m+9,1,none⟩)]).toArray = #[mkE (.read ⟨a.m+9,1,none⟩)]:=by kernel_rfl
theorem sB6:seen Try.prog 67 (esOf [.mk (.extern 80),.mk .enable]).toArray = #[mkE .enable]:=by kernel_rfl
theorem bM2 {A:Area}{B d:Nat}{es:Array Event}(he:∀ e∈es,A.okp B (.ofEvent e)) (t:Trace) (fn:FuncId) (pos:String) (h:P0 A B d t):P0 A B (deafBehind d es) (t++MemOp.ofEvents 0 fn pos es):=
 h.app (lf _) ae1 (fun op hop=>by obtain ⟨e,hm,rfl⟩:=lI hop; exact he e hm) (by rw [Deaf_own,h.deaf])
theorem bT2 {A:Area}{B:Nat}(hl:A.Wg<B) (i:Nat) (wr:Bool):A.okp B (.ofEvent ⟨.cell ⟨A.Wg,i,none⟩,wr,true⟩):=by
 have e:MemAct.ofEvent ⟨.cell ⟨A.Wg,i,none⟩,wr,true⟩ = .access ⟨.cell ⟨A.Wg,i,none⟩,wr,true⟩:=by cases wr<;>rfl
 rw [e];refine ⟨fun b hb _=>?_,by simp,hl⟩;simp only [MemAct.touch?,Option.some.injEq] at hb;subst hb;simp
theorem bT1 {A:Area}{B:Nat}{m:Mark}(h:(MemAct.mark m).touch?=none) (hr:∀ x,m≠.release x) (hl:(MemAct.mark m).low B):A.okp B (.ofEvent (mkE m)):=
 ⟨fun b hb=>(by rw [show MemAct.ofEvent (mkE m) = .mark m from rfl,h] at hb; cases hb),fun e=>hr _ (MemAct.mark.inj e),hl⟩
theorem bW9 {C C':World}{st:Int}(hm:a.m=C.heap.size) (h:Gr C (osP a (.int .u64 st)) C'):WgS (a.m+9) 127 C' st 0:=by
 unfold WgS;rw [hm,h.get];rfl
theorem b63 {C:World}{A:Area}{B:Nat}(hm:a.m=C.heap.size) (hW:A.Wg=a.m+9) (hB:a.m+10<=B) {K:World->(Trace->Prop)->Prop}(hK:∀ C',Gr C (osP a KV) C'->K C' (P0 A B 0)):∀ C0,Gr C (osP a (.int .u64 0)) C0->aO8 Try.prog a.cf8 (P0 A B 0) C0 K:=by
 intro C0 h0;have hw0:=fun d=>af6 (bW9 hm (h0.at d))
 refine ⟨fun d=>⟨trivial,trivial,trivial⟩,P0 A B 1,an1,fun t fn pos ht=>?_,fun d1=>?_⟩
 ·rw [sB1];exact bM2 (d:=0) (es:=#[mkE .disable]) (fun e he=>by simp at he; subst he; exact bT1 rfl (by simp) trivial) t fn pos ht
 refine ⟨fun d=>⟨trivial,trivial⟩,P0 A B 1,an1,fun t fn pos ht=>?_,fun d2=>?_⟩
 ·rw [sB2,ofEvents_none]; simpa using ht
 refine ⟨fun d=>⟨trivial,(hw0 d).1,⟨⟨_,(hw0 d).1⟩,(hw0 d).2.2.2 0,fun _ e=>(by cases e),fun _ e=>(by cases e)⟩,trivial⟩,P0 A B 1,an1,fun t fn pos ht=>?_,fun d3=>?_⟩
 ·rw [sB3];exact bM2 (d:=1) (es:=#[rdE (a.m+9) 0,wrE (a.m+9) 0]) (fun e he=>by
   simp at he;rcases he with rfl | rfl
   ·have:=bT2 (A:=A) (B:=B) (by omega) 0 false
    rw [hW] at this; exact this
   ·have:=bT2 (A:=A) (B:=B) (by omega) 0 true
    rw [hW] at this; exact this) t fn pos ht
 have h1':∀ d,Gr C (osP a KV) (((C0.at d).setCell ⟨a.m+9,0,none⟩ KV)):=fun d=>by
  have:=(h0.at d).set (i:=9) (off:=0) (v:=KV) (c:=#[.int .u64 0,.int .u32 0]) (T:=127) (fz:=(0,0)) rfl
  rw [<-hm] at this;exact this
 refine ⟨fun d=>?_,P0 A B 1,an1,fun t fn pos ht=>?_,fun d4=>?_⟩
 ·have:=(af6 (bW9 (st:=4294967296) hm ((h1' d3).at d))).2.2.1
  exact ⟨this,this,trivial⟩
 ·rw [sB4,ofEvents_none]; simpa using ht
 refine ⟨fun d=>⟨trivial,trivial,trivial⟩,P0 A B 1,an1,fun t fn pos ht=>?_,fun d5=>?_⟩
 ·rw [sB5];exact bM2 (d:=1) (es:=#[mkE (.read ⟨a.m+9,1,none⟩)]) (fun e he=>by
   simp at he;subst he;refine ⟨fun b hb _=>?_,by simp [mkE,MemAct.ofEvent],show a.m+9<B by omega⟩;simp only [mkE,MemAct.ofEvent,MemAct.touch?,Option.some.injEq] at hb;subst hb;simp) t fn pos ht
 refine ⟨fun d=>⟨trivial,trivial,trivial⟩,P0 A B 0,an1,fun t fn pos ht=>?_,fun d6=>hK _ ((h1' d3).at d6)⟩;rw [sB6];exact bM2 (d:=1) (es:=#[mkE .enable]) (fun e he=>by simp at he; subst he; exact bT1 rfl (by simp) trivial) t fn pos ht
end
end Hid
namespace Hid
open Go Go.Proofs Go.RowKit Go.Conc Ar
open Go.ConcN (sumTo upd sumTo_upd upd_ne upd_same)
set_option maxRecDepth 100000
variable [Junk]
section
variable {B0:Nat}{Post:Value->World->Prop}{f:FuncId}{Q:Value->World->Prop}
theorem bm0 (a:Ar) (i:Nat) (o:Obj) (h:(osT a)[i]?=some o):(∃ o',(osP a KV)[i]?=some o'/\ObR o' o)/\(∀ x u,o≠.view x u)/\(∀ c u,o≠.pending c u)/\∀ r,o≠.loop r:=by
 have hlt:i<10:=(lR.1 h).1;have hc:i=0\/i=1\/i=2\/i=3\/i=4\/i=5\/i=6\/i=7\/i=8\/i=9:=by omega
 rcases hc with rfl | rfl | rfl | rfl | rfl | rfl | rfl | rfl | rfl | rfl<;>obtain rfl:=Option.some.inj (h:some _=some o)
 all_goals refine ⟨⟨_,rfl,?_⟩,(fun _ _ e=>by cases e),(fun _ _ e=>by cases e),fun _ e=>by cases e⟩
 all_goals first | exact .inl rfl | exact .inr (.inl ⟨_,_,rfl,rfl⟩)
theorem b74 (a:Ar) {C L C2 L1:World}(hw:@WR noLoops _ C L) (hc:Gr C (osP a KV) C2) (hl:Gr L (osT a) L1):@WR noLoops _ C2 L1:=by
 have cs:∀ b o,L1.heap[b]?=some o->L.heap[b]?=some o/\b<L.heap.size\/∃ i,b=L.heap.size+i/\(osT a)[i]?=some o:=fun b o h=>by
  by_cases hb:b<L.heap.size
  ·rw [hl.old hb] at h; exact .inl ⟨h,hb⟩
  ·obtain ⟨i,rfl⟩:∃ i,b=L.heap.size+i:=⟨b-L.heap.size,by omega⟩
   rw [hl.get] at h;exact .inr ⟨i,rfl,h⟩
 refine ⟨hc.sys.trans (hw.os.trans hl.sys.symm),hc.out.trans (hw.out.trans hl.out.symm),?_,fun b o h=>?_,fun b x u h=>?_,fun b c u h=>?_,fun b r h=>?_⟩
 ·rw [hc.size,hl.size,hw.size]; rfl
 ·rcases cs b o h with ⟨h1,h2⟩ | ⟨i,rfl,h1⟩
  ·rw [hc.old (by rw [hw.size]; exact h2)];exact hw.blk b o h1
  ·rw [<-hw.size,hc.get];exact (bm0 a i o h1).1
 ·rcases cs b _ h with ⟨h1,h2⟩ | ⟨i,rfl,h1⟩
  ·exact hw.nv _ _ _ h1
  ·exact absurd rfl ((bm0 a i _ h1).2.1 _ _)
 ·rcases cs b _ h with ⟨h1,h2⟩ | ⟨i,rfl,h1⟩
  ·exact hw.np _ _ _ h1
  ·exact (bm0 a i _ h1).2.2.1 _ _ rfl
 ·rcases cs b _ h with ⟨h1,h2⟩ | ⟨i,rfl,h1⟩
  ·exact hw.lp _ _ h1
  ·exact ((bm0 a i _ h1).2.2.2 _ rfl).elim
theorem bx_gr (a:Ar) {C C2:World}(hm:a.m=C.heap.size) (h:Gr C (osP a KV) C2):FB (bxOf a) C2:=by
 intro b o hb;unfold bxOf at hb;rw [hm] at hb;repeat' split at hb
 all_goals first | (cases hb; done) | skip
 all_goals rename_i e; subst e; rw [h.get]; exact hb
theorem ce8 (a:Ar) {L L1:World}(hm:a.m=L.heap.size) (h:Gr L (osT a) L1):∀ b o,bxOf a b=some o->∃ T fz,L1.heap[b]?=some (.cells #[] T fz):=by
 intro b o hb;unfold bxOf at hb;rw [hm] at hb;repeat' split at hb
 all_goals first | (cases hb; done) | skip
 all_goals rename_i e; subst e; rw [h.get]; exact ⟨_,_,rfl⟩
theorem bO2 (a:Ar) (h8:a.n3<=8) (hG:GB twp B0) {x:Frame}{xs:List Frame}{Shun:Loc->Prop}{B:Nat}{gs:Array Goroutine}{C L:World}{sl:Option (Nat×Nat)}{t:Trace}{q:Nat->Nat}(hm:a.m=L.heap.size)
  (hx:@FrOK noLoops twp Try.prog x) (hxs:∀ y∈xs,@FrOK noLoops twp Try.prog y) (hsit:@Sit noLoops _ Try.prog B0 Shun B gs C L t q) (h0:gs[0]?=some (G a.F0 (x::xs))) (ht:Tree twp (AtRet twp f Q) (G a.T0 (x::xs++[dmF twp])) L)
  (hcl:∀ g' L',Later twp (G a.T0 (x::xs++[dmF twp])) L g' L'->@Claim noLoops _ twp Try.prog B0 Post g' L'):Wins Try.prog Post (crowd gs C sl) t:=by
 have hmC:a.m=C.heap.size:=hm.trans hsit.wr.size.symm;have hS:∀ l,Shun l->∃ ad,l = .cell ad/\ad.block<a.m:=fun l hl=>by
  obtain ⟨ad,T,fz,e,h⟩:=hsit.shun l hl;exact ⟨ad,e,by rw [hm]; exact (lg.1 h).1⟩
 have hN:0<gs.size:=(lg.1 h0).1;have hE:=eok a x xs Shun gs.size (B0:=B0) (by rw [hm]; exact hsit.big) hS hN;have hcs:CsOK x xs:=fun z hz=>by
  rcases xd.1 hz with rfl | hz
  ·exact ⟨hx.defers,hx.mode⟩
  ·exact ⟨(hxs z hz).defers,(hxs z hz).mode⟩
 obtain ⟨hfit,hgr⟩:=bn5 (f:=49) (osT a) [] L a.m (Gr.self L) (by rw [hm]; rfl);rw [<-bP1] at hfit hgr;obtain ⟨ht1,hl1⟩:=ad7 46 (s:=(a.T0,csT x xs)) (cb0 a h8 (csT x xs)) hfit ht;generalize hL1:wL a.b54 L=L1 at *
 have hgL:Gr L (osT a) L1:=hgr;have sz1:L1.heap.size=a.m+10:=by rw [hgL.size,hm]; rfl
 have hWW:TW a x xs Shun gs.size B0 Post R1 0 (G a.child []) L1:=by
  refine WW.facts (E:=env a x xs Shun gs.size) fun hl=>?_
  obtain ⟨_,_,_,_,_,_,b8⟩:=bxV (a:=a) (i:=0);refine WW.run (E:=env a x xs Shun gs.size) hE rp1 13 (s:=(a.child,[])) (ca9 a) (bf9 hl 8 a.chV (by omega) 117 b8) ?_;refine bW4 hE hG hcs h8 (f:=f) (Q:=Q) (g0:=G a.T0 (csT x xs)) (L0:=L) (fun x26 x30 x31 x33 x34 x35 L2 ht2 hl2=>?_) a.n3 0 (by omega) _ _ _ _ _ _ L1 ht1 hl1 _ _ _ _ _;have hrB:=bS4 a (csT x xs) (a.n3:Int) x26 x30 x31 x33 x34 x35;rw [lm (Int.lt_irrefl _)] at hrB;obtain ⟨ht3,hl3⟩:=ad7 3 hrB (L:=L2) trivial ht2;obtain ⟨ht4,hl4⟩:=ad7 9 (ca1 a (csT x xs) (a.n3:Int) x26 x31 x33 x34 x35) (L:=L2) trivial ht3;have hout:=ab4 (out_T a x (xs++[dmF twp]) (.int .i64 a.n3) x26 x31 x33 x34 x35) (w:=L2) trivial;refine pxl hE hS hx hxs (hcl _ _ (hl2.trans (hl3.trans (hl4.trans ?_))));exact .step (d:=L2.drawn) hout (.refl _ _)
 refine aW7 46 (s:=(a.F0,x::xs)) (cb1 a h8 (x::xs)) (N:=gs.size) (T:=Past Shun (a.m+9)) ad4 rfl h0 hsit.lv (hsit.past.mono (by have:=hsit.low; omega)) fun d=>?_
 refine b64 (C:=C) hmC (lf _) hS (fun C1 hC1=>?_) _ ((Gr.self C).at d);intro d1 gs1 sl1 t1 q1 hz1 hg1 hlv1 hp1;refine aW7 147 (s:=(a.FA,x::xs)) (ca8 a (x::xs)) (N:=gs.size) (T:=P0 (env a x xs Shun gs.size).A (a.m+10) 0) an1 hz1 hg1 hlv1 ?_ fun d2=>?_
 ·exact P0.of (A:=(env a x xs Shun gs.size).A) hp1 (lf _) (uO _)
 refine b63 (C:=C) hmC rfl (lf _) (fun C2 hC2=>?_) _ ((hC1.at d1).at d2);intro d3 gs2 sl2 t2 q2 hz2 hg2 hlv2 hp2;refine aT6 (T:=P0 (env a x xs Shun gs.size).A (a.m+10) 0) an1 (sumTo gs2.size q2) (lf _) hg2 rfl hlv2 hp2 fun d4 gs3 sl3 t3 q3 hg3 hz3 hlv3 hp3=>?_
 have hN3:gs3.size=gs.size:=hz3.trans hz2;have hspawn:=ai0 (go_P a (x::xs)) (w:=(C2.at d3).at d4) trivial;refine ⟨_,_,runT_crowd_spawn (P:=Try.prog) (i:=0) hg3 hspawn,?_⟩;rw [hN3];generalize (G a.FG (x::xs)).frame.fn=f1;generalize (G a.FG (x::xs)).frame.place=p1;generalize hC3:wOf [] ((C2.at d3).at d4)=C3;have hg:Gr C (osP a KV) C3:=by rw [<-hC3]; exact (hC2.at d3).at d4
 have sz3:C3.heap.size=a.m+10:=by rw [hg.size,hmC]; rfl
 have hn:Deaf t3 gs.size=0:=hlv3.above _ (by omega);have hti:=P0.fork hE.ap hp3 hn f1 (G a.child []).frame.fn p1 p1;have hdf:∀ i,Deaf (t3++#[{ g:=0,fn:=f1,pos:=p1,act:= .go gs.size },{ g:=gs.size,fn:=(G a.child []).frame.fn,pos:=p1,act:= .start }]) i=Deaf t3 i:=fun i=>by
  rw [show ∀ u v:MemOp,(#[u,v]:Trace)=[u,v].toArray from fun _ _=>rfl,Deaf_append];rfl
 have hlt:0<gs3.size:=by omega
 refine hWW .opn 0 (G a.FP (x::xs)) ((gs3.setIfInBounds 0 (G a.FP (x::xs))).push (G a.child [])) C3 sl3 _ q3 ?_ trivial;refine ⟨?_,?_,⟨fun i g hi hne hx2=>?_,fun j hj=>?_,?_,hN⟩,?_,fun b hb=>?_,?_,?_,fun l hl=>?_,?_,?_,?_,?_,?_,?_,?_,?_,?_,bL9 a x xs Shun gs.size h8,fun h=>absurd rfl h⟩
 ·rw [Array.getElem?_push_lt (by simpa using hlt)];simp [hlt]
 ·show ((gs3.setIfInBounds 0 (G a.FP (x::xs))).push (G a.child []))[gs.size]?=_;rw [xk,ln (by simp [hN3])]
 ·have hi2:i≠gs.size:=hne;rw [xk] at hx2;split at hx2
  ·rename_i e; simp at e; omega
  ·rw [lh (by omega)] at hx2;have:=hlv3.old i g hi hx2
   rw [<-hdf i] at this;exact this
 ·exact (hdf j).trans (hlv3.above j (by simp at hj; omega))
 ·simp [hN3]; exact xF _
 ·exact b74 a hsit.wr hg hgL
 ·rw [hg.old (by rw [hsit.wr.size]; exact lN hb hsit.big),hgL.old (lN hb hsit.big)];exact hsit.old b hb
 ·rw [hg.tape,hgL.tape]; exact hsit.tape
 ·rw [sz1]; exact lf _
 ·obtain ⟨ad,T,fz,e,h⟩:=hsit.shun l hl;exact ⟨ad,T,fz,e,by rw [hgL.old (lg.1 h).1]; exact h⟩
 ·exact bx_gr a hmC hg
 ·refine ⟨0,0,?_⟩;show C3.heap[a.m+7]?=_;rw [hmC,hg.get];rfl
 ·show L1.heap[a.m+7]?=_;rw [hm,hgL.get];rfl
 ·exact bW9 (st:=4294967296) hmC hg
 ·exact ce8 a hm hgL
 ·refine ⟨127,(0,0),?_⟩;show L1.heap[a.m+9]?=_;rw [hm,hgL.get];rfl
 ·rw [sz3];exact hti
 ·exact (hdf 0).trans hp3.deaf
 ·exact (hdf _).trans hn
theorem a73 (hG:GB twp B0):@ch5 noLoops _ twp Try.prog B0 Post (AtRet twp f Q) 49:=by
 intro args x xs Shun B gs C L sl t q hx hxs hsit h0 ht hcl;obtain ⟨l,hl,e1,e2⟩:=b50 args;rw [e1] at h0;rw [e2] at ht hcl;obtain ⟨w,rest,rfl⟩:=bZ8 l hl;obtain ⟨b0,n0,c0,i1,i2,b3,n3,c3,i4,v0,v1,v2,v3,v4,v5,h8⟩:=bN9 (v0:=w 0) (v1:=w 1) (v2:=w 2) (v3:=w 3) (v4:=w 4) (v5:=w 5) ht;rw [v0,v1,v2,v3,v4,v5] at h0 ht hcl;exact bO2 ⟨b0,n0,c0,i1,i2,b3,n3,c3,i4,L.heap.size,w,rest⟩ h8 hG rfl hx hxs hsit h0 ht hcl
end
end Hid
namespace Hid
open Go Go.Proofs Go.RowKit Go.Conc Ar
open Go.ConcN (sumTo upd sumTo_upd upd_ne upd_same)
set_option maxRecDepth 100000
def aN8 (b:Nat) (o:Obj):Obj:=match o with
 | .view _ _ | .pending _ _ | .loop _=> .view ⟨b,0,none⟩ 0
 | o=>o
def clean (W:World):World:={ W with heap:=W.heap.mapIdx aN8 }
theorem au8 (W:World) (b:Nat):(clean W).heap[b]?=(W.heap[b]?).map (aN8 b):=by simp [clean]
theorem bv0 (W:World) (a:Addr):(clean W).cell? a=W.cell? a:=by
 unfold World.cell?;rw [au8];cases W.heap[a.block]? with
 | none=>rfl
 | some o=>cases o<;>rfl
theorem bH1 (W:World) (b:Nat) (es:Array MapEntry) (c:Nat):(clean W).heap[b]?=some (.map es c)<->W.heap[b]?=some (.map es c):=by
 rw [au8];cases W.heap[b]? with
 | none=>simp
 | some o=>cases o<;>simp [aN8]
theorem b33 (o:Obj):Jk o\/∀ b,aN8 b o=o:=by
 cases o<;>first | exact .inl (.view _ _) | exact .inl (.pending _ _) | exact .inl (.loop _) | exact .inr fun _=>rfl
theorem aY1 {o:Obj}(h:Jk o) (b:Nat):aN8 b o = .view ⟨b,0,none⟩ 0:=by cases h<;>rfl
theorem bp7 {H:Type}{enc:TypeId×Value->H}{P:Program}{V W:World}{base:Nat}{sp:Nat->Bool}{held:Bool}(hc:∀ a,V.cell? a=W.cell? a) (hm:∀ (b:Nat) es c,V.heap[b]?=some (.map es c)<->W.heap[b]?=some (.map es c)):∀ fuel,DataW.trod enc P V base sp held fuel=DataW.trod enc P W base sp held fuel:=by
 have hcs:∀ b a n,V.cells? b a n=W.cells? b a n:=fun b a n=>by
  unfold World.cells?;simp only [hc]
 intro fuel;induction fuel with
 | zero=>rfl
 | succ fuel ih=>
  funext t cs;unfold DataW.trod;simp only [ih,hcs];split<;>try rfl
  rename_i k e b _;have key:(∃ es c,V.heap[b]?=some (.map es c))\/((∀ es c,V.heap[b]?≠some (.map es c))/\∀ es c,W.heap[b]?≠some (.map es c)):=by
   by_cases h:∃ es c,V.heap[b]?=some (.map es c)
   ·exact .inl h
   ·exact .inr ⟨fun es c hh=>h ⟨es,c,hh⟩,fun es c hh=>h ⟨es,c,(hm b es c).2 hh⟩⟩
  rcases key with ⟨es,c,h⟩ | ⟨h1,h2⟩
  ·rw [h,(hm b es c).1 h]
  ·split
   ·rename_i es c h; exact absurd h (h1 es c)
   ·first
     | rfl
     | (split
        ·rename_i es c h; exact absurd h (h2 es c)
        ·rfl)
theorem leavers_one (P:Program) (g:Goroutine):Leavers P #[] #[g] (fun _=>0):=by
 refine ⟨fun i x hi hx=>?_,fun j _=>rfl⟩;have:i<1:=(lg.1 hx).1
 omega
theorem past_nil (S:Loc->Prop):Past S 0 #[]:=by
 refine ⟨fun said hr=>?_,fun i a h=>?_,fun i g h=>?_,rfl,fun op hop=>by simp at hop⟩
 ·obtain ⟨i,j,_,⟨a,b,ha,_⟩,_⟩:=hr;simp [Trace.act?] at ha
 ·obtain ⟨x,hx,_⟩:=touch_of h;simp at hx
 ·simp [Trace.g?] at h
theorem bB8:Pair twp twp:=by
 have h:Pair twp { twp with funcs:=twp.funcs }:=by
  refine bB9 (full:=true) (J:=fun _=>true) (fun _=>trivial) (fun _ _=>trivial) (fun _ _=>trivial) (fun _ _=> .inl rfl) (fun _ h=>h) rfl fun f fn hf=>?_
  obtain ⟨b,Fn,hb,_,_⟩:=ay1.twin.fn f fn hf;refine ⟨b,fn,hb,fun _=>?_,ay1.ng f fn hf,hf,rfl⟩;rw [bw9] at hf;obtain ⟨g,hg,rfl⟩:=xg.1 hf;have hlt:f<146:=Nat.lt_of_lt_of_eq (lg.1 hg).1 bD3;have hk:=lZ.1 bT5 f (lP.2 hlt);unfold okAt at hk;rw [hg] at hk;simp only [hb,lu] at hk;exact hk.1.1
 exact h
theorem bN6 {f:FuncId}{fn:Func}{args:Array Value}{W:World}{Post:Value->World->Prop}(hfn:twp.funcs[f]?=some fn) (hP:Try.prog.funcs[f]?=some fn) (hin:Try.prog.inits.idxOf? f=none)
  (hres:∀ tmps,∃ v,∀ (q:Program) (w:World) (es:Array Event),(results fn tmps).runT q w es=(.ok v w,es)) (hgl:∀ b,b<Try.prog.globals.size->∃ c T fz,W.heap[b]?=some (.cells c T fz))
  (hC:∀ T,Calls twp f args { clean W with tape:=T } fun e w'=>e = .returned (.bool true)/\Below W.heap.size { clean W with tape:=T } w')
  (hPost:∀ C:World,C.os=W.os->C.output=W.output->W.heap.size<=C.heap.size->(∀ b:Nat,b<W.heap.size->C.heap[b]?=W.heap[b]?)->Post (.bool true) C):Wins Try.prog Post (solo (G (Frame.enter Try.prog f args .normal) []) W) #[]:=by
 letI:Junk:=⟨fun b=>W.heap[b]?,Try.prog.globals.size⟩
 have hsz:(clean W).heap.size=W.heap.size:=by simp [clean]
 have hview:∀ b a u,(clean W).heap[b]?=some (.view a u)->a.block=b/\Try.prog.globals.size<=b:=fun b a u h=>by
  rw [au8] at h;cases ho:W.heap[b]? with
  | none=>rw [ho] at h; cases h
  | some o=>
   rw [ho] at h;rcases b33 o with hj | hj
   ·rw [lC,aY1 hj] at h;cases h;refine ⟨rfl,Nat.le_of_not_lt fun hlt=>?_⟩;obtain ⟨c,T,fz,hc⟩:=hgl b hlt;rw [hc] at ho;cases ho;cases hj
   ·rw [lC,hj b] at h;cases h;have:=hj 0
    simp only [aN8] at this;refine ⟨?_,Nat.le_of_not_lt fun hlt=>?_⟩
    ·have:=hj b
     simp only [aN8,Obj.view.injEq] at this;rw [<-this.1]
    ·obtain ⟨c,T,fz,hc⟩:=hgl b hlt;rw [hc] at ho;cases ho
 have hnj:∀ (b:Nat) (o:Obj),(clean W).heap[b]?=some o->(∀ c u,o≠.pending c u)/\∀ r,o≠.loop r:=fun b o h=>by
  rw [au8] at h;cases ho:W.heap[b]? with
  | none=>rw [ho] at h; cases h
  | some o2=>
   rw [ho,lC] at h;cases h;cases o2<;>exact ⟨fun _ _ e=>(by cases e),fun _ e=>(by cases e)⟩
 have hWL:@WR noLoops _ W (clean W):=by
  refine ⟨rfl,rfl,hsz.symm,fun b o h=>?_,hview,fun b c u h=>(hnj b _ h).1 _ _ rfl,fun b r h=>((hnj b _ h).2 _ rfl).elim⟩;rw [au8] at h;cases ho:W.heap[b]? with
  | none=>rw [ho] at h; cases h
  | some o2=>
   rw [ho,lC] at h;cases h;refine ⟨o2,rfl,?_⟩;rcases b33 o2 with hj | hj
   ·rw [aY1 hj]; exact .inr (.inr (.inr ⟨⟨_,_,rfl⟩,hj⟩))
   ·rw [hj]; exact .inl rfl
 have hold:∀ b:Nat,b<W.heap.size->W.heap[b]?=U b (clean W).heap[b]?:=fun b _=>by
  rw [au8];cases ho:W.heap[b]? with
  | none=>rfl
  | some o2=>
   rcases b33 o2 with hj | hj
   ·rw [lC,aY1 hj]; exact ho.symm
   ·rw [lC,hj];cases o2<;>first | rfl | exact ho.symm
 have hGW:twp.globals.size<=W.heap.size:=by
  refine Nat.le_of_not_lt fun hlt=>?_
  obtain ⟨c,T,fz,hc⟩:=hgl W.heap.size hlt;simp at hc
 have hGB:GB twp W.heap.size:=⟨hGW,lf _⟩
 have hrun:∀ tmps,∃ v,∀ w,(results fn tmps).run twp w = .ok v w:=fun tmps=>by
  obtain ⟨v,hv⟩:=hres tmps;exact ⟨v,fun w=>by rw [<-Sem.runT_fst twp _ w #[],hv]⟩
 have ht:=aU8 (Q:=fun v w'=>v = .bool true/\w'.os=W.os/\w'.output=W.output/\W.heap.size<=w'.heap.size/\∀ b:Nat,b<W.heap.size->w'.heap[b]?=(clean W).heap[b]?) bB8 (f:=f) (args:=args) (w:=clean W) trivial hWL.self (fun T=>(hC T).mono fun e w' h=>⟨_,h.1,rfl,h.2.os,h.2.output,by have:=h.2.size; exact hsz▸this,h.2.block⟩)
  (fun v w1 w2 h1 h2 h3 hq=>⟨hq.1,h2▸hq.2.1,h3▸hq.2.2.1,h1▸hq.2.2.2.1,h1▸hq.2.2.2.2⟩) hfn hrun
 have henter:Frame.enter twp f args .normal=Frame.enter Try.prog f args .normal:=by
  unfold Frame.enter;rw [hfn,hP]
 have hcl:=bv6 (B0:=W.heap.size) (Post:=Post) ay1 hGB (a73 hGB) ar9 hin hfn hres (fun v C L hw ho hq=>?_) ht _ _ (.refl _ _)
 ·rw [<-henter];exact hcl (Frame.enter twp f args .normal) [] rfl (aI5 ay1 trivial hfn args) (by simp) (fun _=>False) 0 #[G (Frame.enter twp f args .normal) []] W none #[] (fun _=>0) ⟨leavers_one _ _,past_nil _,hWL,lE _,fun l h=>h.elim,rfl,hold,by rw [hsz]; exact lf _⟩ rfl
 ·obtain ⟨rfl,q1,q2,q3,q4⟩:=hq;refine hPost C (hw.os.trans q1) (hw.out.trans q2) (by rw [hw.size]; exact q3) fun b hb=>?_
  rw [ho b hb,q4 b hb];exact (hold b hb).symm
end Hid
namespace Hid
open Go Go.Proofs Go.RowKit Go.Conc Ar
set_option maxRecDepth 100000
noncomputable def rowsB (P:Program):Bool:=(List.range P.globals.size).all fun g=>(((begin P (fun _ _=>0) default).world.heap[g]?).bind Obj.row?).isSome
theorem b03:rowsB Try.prog=true:=by kernel_rfl
theorem b04 {w:World}(h:w.ShapedOpen Try.prog):∀ b,b<Try.prog.globals.size->∃ c T fz,w.heap[b]?=some (.cells c T fz):=fun b hb=>by
 have h1:=lZ.1 b03 b (lP.2 hb);obtain ⟨⟨zero,t⟩,h2⟩:=Option.isSome_iff_exists.1 h1;obtain ⟨cs,h3,_⟩:=h.1 b zero t hb h2;exact ⟨cs,t,_,h3⟩
theorem aL5 {H:Type}{enc:TypeId×Value->H}{os:Os}{f:FuncId}{fn:Func}{s:ChangeSpec}{conds:List PathCond}{apart fresh handsOn again:Bool}
  (own:ownKnob Try.prog.godebug=none) (started:os.Started) (hT:twp.funcs[f]?=some fn) (hfn:Try.prog.funcs[f]?=some fn) (hin:Try.prog.inits.idxOf? f=none) (hres:∀ tmps,∃ v,∀ (q:Program) (w:World) (es:Array Event),(results fn tmps).runT q w es=(.ok v w,es))
  (witness:∃ (w:World) (tape:Tape) (i:Input),w.os=os/\(w.forCall tape i).Shaped Try.prog/\i.vars=[]/\Input.okWide Try.prog (w.forCall tape i) .any w.heap.size f i/\
   s.pre6 enc Try.prog fn conds apart (w.forCall tape i).memory i.args/\({}:Assume).holds Try.prog (lone (Frame.enter Try.prog f i.args .normal) [] (w.forCall tape i)))
  (contract:∀ (W:World) (base:Nat) (args:Array Value) (ds gs:List (DataW H)) (before:List MemPlace),
   (∀ (j:Nat) t v,fn.params[j]?=some t->args[j]?=some v->Value.okWide Try.prog W .any base t v)->DataW.Whole enc Try.prog fn.params.toList s.vars apart W args.toList ds gs before->
   conds.all (PathCond.test Try.prog ⟨fn.params.toList,ds,s.plain.varTypes Try.prog,gs⟩)=true->
   (DataW.weightsEach Try.prog (fn.params.toList++s.plain.varTypes Try.prog) (ds++gs)).all (·<=reachBytes)=true->
   (∀ T,Calls twp f args { clean W with tape:=T } fun e w'=>e = .returned (.bool true)/\Below W.heap.size { clean W with tape:=T } w')/\
   ∀ C:World,Below W.heap.size W C->s.post enc Try.prog fn apart fresh handsOn again W args (.bool true) C) :
  ReturnsInLeavingWide {} Try.checked os f .any (s.pre6 enc Try.prog fn conds apart) (s.post enc Try.prog fn apart fresh handsOn again):=by
 refine returnsInLeavingWide_of_good own started witness ?_;intro w tape i _ hsh _ hok hpre _;obtain ⟨_,_,_,fn',hfn',_,_,_,_,hval⟩:=hok;have e:fn'=fn:=Option.some.inj (hfn'.symm.trans hfn);subst e;obtain ⟨⟨ds,gs,before,hw,hc⟩,hz⟩:=hpre;have hw':=DataW.Whole.of_heap (w':=w.forCall tape i) (by rfl) hw;have hwb:=DataW.Whole.of_heap (w':=(w.forCall tape i).blind) (by rfl) hw;obtain ⟨hC,_⟩:=contract (w.forCall tape i) w.heap.size i.args ds gs before hval hw' hc (hz.weights hw);refine bN6 hT hfn hin hres (b04 hsh) hC fun C h1 h2 h3 h4=>?_
 have hvb:∀ (j:Nat) t v,fn'.params[j]?=some t->i.args[j]?=some v->Value.okWide Try.prog (w.forCall tape i).blind .any w.heap.size t v:=hval;obtain ⟨_,hp⟩:=contract (w.forCall tape i).blind w.heap.size i.args ds gs before hvb hwb hc (hz.weights hw);exact hp C.blind ⟨h1,rfl,h2,h3,h4⟩
end Hid
end Go.Proofs.Ytbkgncikjhibiaa
