/- Part 9 of 15 of the proof of WholeBytes; no conditions. -/
import Derived.Test.YtklligbjoplbgaaGreatNah
namespace Go.Proofs.YtklligbjoplbgaaGreat
set_option linter.all false
set_option maxRecDepth 100000
set_option maxHeartbeats 64000000
open Go.RowKit Lib List Nat _root_.Go.Proofs.Tryz Go.Shelf
variable {af:Array Edge}{ops:Array Oper}{Q:Exit->Act->aD->Prop}{c:Int}{bI:aK}{X:aK->aD->Prop}{O:List O4}{rest:List Oper}{M bs l ps:List aq}{L:List R4}{xs:List bh}{E b base i j k m n o want y z:Nat}{f:Nat->bh}{ao:Option Addr}{d:Option Nat}{P:pw}{s s1 s2:Pl}{a:Pl×(List aq×Int)}{q:aq}{p:String}{e t t2:dD}{α β:Type}{v:bh}{w w0:aD}
theorem qX (P D M:Nat)(s:Pl)(q:aq)(hq:bt q)(w:aD)(h:bH w P D M s):
 Calls prog 155 #[.pointer (some ⟨P,0,none⟩),iy q] w λe w'=>∃N,e=.returned (.tuple #[.agg N,.int .i64 (aO s q).2.2])/\N=ah 24 (bJ (aO s q).2.1)/\bH w' P D M (aO s q).1/\Fr (some D) [] w w':=by
 obtain⟨A,hA⟩:=gq (ah 3 (aN q));have hvq:=az hA;have S:=St.start w (some D) [] (bu P D M s) h;obtain⟨T,hT⟩:=cM (aO s q);have HT:=ae hT;have C1:=ae λW (X:bH W P D M s)=>tm P D M s q hq W X;have hok:=wU h.dev.ok q;unfold aO at HT;rw[hT,hvq];rw[hvq] at C1;obtain⟨r,hr⟩:=cM (dW s q);rw[hr] at C1 HT hok;obtain⟨s1,bs,c1⟩:=r;simp only at C1 HT hok;obtain⟨B,hB⟩:=gq (ah 128 (aw bs));have C2:=ae λW=>u2 bs hok B hB W;have HB:=ae hB;have HA:=ae hA;obtain⟨ZN,hZN⟩:=gq (ah 24 (bJ ph));have HZN:=ae hZN;have HBN:=ae (show prog.built 191 []=some ZN by rw[hZN];exact abi);clear hA h hT hr hvq hok hB hZN;go_enter func155,ntmps155
 go_upto_region 2 with(first|(go_at_call 110;refine(C1.o _ S.x).mono ?_;rintro e W ⟨B1,rfl,hB1,hp,hf⟩;obtain rfl:B=B1:=HB.o.trans hB1.symm;replace S:=S.call hf (λD e=>e) fh (bu P D M s1) (λB h=>hp);clear hB1 hp hf)|refine fN ?_|refine ew λW S=>?_)
 by_cases g1:c1=0
 case neg=>
  have g9: (c1 != 0)=true:=lh.2 g1;rw[bC g1] at HT;obtain rfl:=HT.o;clear g1
  go_wp2_with (first|((with_reducible refine aY 17 191 ?_);refine eW (cells:=ZN) rfl HBN.o ?_)|(refine o7 ?_;exact⟨_,rfl,rfl,S.x,S.fr⟩)|refine ew λW S=>?_)
 subst g1;rw[bX (λh=>h rfl)] at HT;rcases hn:sE bs with _ | l
 rotate_left
 all_goals
  rw[hn] at HT C2
  first | simp only[codeF,X3] at HT C2 | simp only[codeF,X4,wz,mb] at HT C2
  obtain rfl:=HT.o;clear hn
  go_wp2_with (first|(go_at_call 207;refine(C2.o _).mono ?_;rintro e W ⟨N,rfl,hN,hb⟩;have HN:=ae hN;replace S:=S.below hb;clear hN hb)|((with_reducible refine aY 26 191 ?_);refine eW (cells:=ZN) rfl HBN.o ?_)|refine fN ?_|refine ew λW S=>?_|(refine o7 ?_;exact⟨_,rfl,rfl,S.x,S.fr⟩))
theorem oU (P D M:Nat)(s:Pl)(ho:s.dv.ops<=1000000000)(l:Nat->aq)(hl: ∀i,i<8->bt (l i))(N:iw)(hN:N=ah 24 (bJ l))(w:aD)(h:bH w P D M s):
 Calls prog 142 #[.pointer (some ⟨P,0,none⟩),.agg N] w λe w'=>e=.returned (.tuple #[iy (dg s l).2.1,.int .i64 (dg s l).2.2])/\bH w' P D M (dg s l).1/\Fr (some D) [M] w w':=by
 have S:=St.start w (some D) [M] (bu P D M s) h;have C1:=ae λW=>(show Calls prog 185 #[.agg N] W λe w'=>∃A,e=.returned (.tuple #[.agg A,.int .i64 (codeF 51 (ot l))])/\A=ah 128 (aw ((ot l).getD aX))/\dp W w' from by rw[hN];exact yF l hl W);have HN:=ae hN;obtain⟨T,hT⟩:=cM (dg s l);have HT:=ae hT;unfold dg at HT;rw[hT];obtain⟨ZH,hZH⟩:=gq (ah 3 (aN hole));have HZH:=ae hZH;have HBH:=ae (show prog.built 106 []=some ZH by rw[hZH,<-bz];exact F');clear h hT hN hZH;go_enter func142,ntmps142;cases hn:ot l with
 | none=>
  rw[hn] at HT C1;simp only[codeF,X3] at HT C1;obtain rfl:=HT.o;clear hn
  go_wp2_with (first|(go_at_call 185;refine(C1.o _).mono ?_;rintro e W ⟨A,rfl,hA,hb⟩;have HA:=ae hA;replace S:=S.below hb;clear hA hb)|((with_reducible refine aY 15 106 ?_);refine eW (cells:=ZH) rfl HBH.o ?_)|(refine o7 ?_;exact⟨by rw[az (q:=hole) rfl];rfl,S.x,S.fr⟩)|refine fN ?_|refine ew λW S=>?_)
 | some b=>
  rw[hn] at HT C1;simp only[codeF,X4,wz,mb] at HT C1;have hb:=zG hn;have C2:=ae λu W (X:bH W P D M s) R=>DD P D M s ho 36 nh u b W X R;obtain⟨s1,p,c⟩:=T;rw[HT.o] at C2;simp only at C2 ⊢;obtain⟨PA,hPA⟩:=gq (ah 3 (aN p));rw[az hPA] at C2 ⊢;have HPA:=ae hPA;have HB:=ae hb;clear hn hPA hb
  go_wp2_with (first|(go_at_call 185;refine(C1.o _).mono ?_;rintro e W1 ⟨A,rfl,hA,hb⟩;have HA:=ae hA;replace S:=S.below hb;clear hA hb)|(go_at_call 141;have hR:=S.k0;have hR:=eX.sec hR HB.o;refine(C2.o _ _ S.x hR).mono ?_;rintro e W ⟨rfl,hp,hf⟩;replace S:=S.call hf (λD e=>e) fh (bu P D M s1) (λB h=>hp);clear hp hf)|(refine o7 ?_;exact⟨by rw[HPA.o];rfl,S.x,S.fr⟩)|refine fN ?_|refine ew λW S=>?_)
theorem vx (P D M:Nat)(s:Pl)(q:aq)(hq:bt q)(i:Nat)(hi:i<64)(w:aD)(h:bH w P D M s):
 Calls prog 109 #[.pointer (some ⟨P,0,none⟩),iy q,.int .i64 i] w λe w'=>∃N,e=.returned (.tuple #[.agg N,.int .i64 (cg s q i).2.2])/\N=ah 51 (iL (cg s q i).2.1)/\bH w' P D M (cg s q i).1/\Fr (some D) [] w w':=by
 obtain⟨A,hA⟩:=gq (ah 3 (aN q));have hvq:=az hA;have S:=St.start w (some D) [] (bu P D M s) h;obtain⟨T,hT⟩:=cM (cg s q i);have HT:=ae hT;have C1:=ae λW (X:bH W P D M s)=>qX P D M s q hq W X;have hp1:=oF h.dev.ok q;unfold cg at HT;rw[hT,hvq];rw[hvq] at C1;obtain⟨i1,hi1⟩:=cM (i / 8);obtain⟨i2,hi2⟩:=cM (i % 8);have hl1:i1<8:=au;have hl2:i2<8:=au;have hd1: (i:Int) / 8=(i1:Int):=au;have hd2: (i:Int) % 8=(i2:Int):=au;rw[hi1,hi2] at HT;obtain⟨r,hr⟩:=cM (aO s q);rw[hr] at C1 HT hp1;obtain⟨s1,l1,c1⟩:=r;simp only at C1 HT hp1;have C2:=ae λW (X:bH W P D M s1)=>qX P D M s1 (l1 i1) (hp1 i1) W X;obtain⟨r,hr2⟩:=cM (aO s1 (l1 i1));rw[hr2] at C2 HT;obtain⟨s2,l2,c2⟩:=r;simp only at C2 HT;obtain⟨PA,hPA⟩:=gq (ah 3 (aN (l1 i1)));rw[az hPA] at C2;have HPA:=ae hPA;have HA:=ae hA;obtain⟨ZW,hZW⟩:=gq (ah 51 (iL L8));have HZW:=ae hZW;have HBW:=ae (show prog.built 193 []=some ZW by rw[hZW];exact abg);clear hA h hT hr hr2 hPA hvq hi1 hi2 hi hp1 hZW;go_enter func109,ntmps109
 go_upto_region 4 with(first|(go_at_call 155;refine(C1.o _ S.x).mono ?_;rintro e W ⟨N1,rfl,hN,hp,hf⟩;have HN1:=ae hN;replace S:=S.call hf (λD e=>e) fh (bu P D M s1) (λB h=>hp);clear hN hp hf)|((with_reducible refine aS 191 16 14 ?_);refine Dk S 0 rfl (o:=0) (m:=24) qv rfl rfl HN1.o rk (fi _) (λw' hr e=>by rw[e];exact Tw hr l1) λW S=>?_)|refine fN ?_|refine ew λW S=>?_)
 by_cases g1:c1=0
 case neg=>
  have g9: (c1 != 0)=true:=lh.2 g1;rw[bC g1] at HT;obtain rfl:=HT.o;clear g1
  go_wp2_with (first|((with_reducible refine aY 19 193 ?_);refine eW (cells:=ZW) rfl HBW.o ?_)|(refine o7 ?_;exact⟨_,rfl,rfl,S.x,S.fr⟩)|refine ew λW S=>?_)
 subst g1;rw[bX (λh=>h rfl)] at HT
 go_upto_region 7 with(first|((with_reducible refine Ga 26 191 25 24 ?_);refine ixN hl1 rfl (by first | rfl) ?_)|((with_reducible refine aG 27 106 26 ?_);refine nK S 0 rfl (o:=i1*3) (m:=3) rfl (aN (l1 i1)) (show i1*3+3<=51 by omega) (aaa _ hl1) HPA.o bd ?_)|(go_at_call 155;refine(C2.o _ S.x).mono ?_;rintro e W ⟨N2,rfl,hN,hp,hf⟩;have HN2:=ae hN;replace S:=S.call hf (λD e=>e) fh (bu P D M s2) (λB h=>hp);clear hN hp hf)|((with_reducible refine aS 191 31 29 ?_);refine Dk S 0 rfl (o:=24) (m:=24) qv rfl rfl HN2.o rk (fi _) (λw' hr e=>by rw[e];exact P6 hr l2) λW S=>?_))
 by_cases g2:c2=0
 case neg=>
  have g9: (c2 != 0)=true:=lh.2 g2;rw[bC g2] at HT;obtain rfl:=HT.o;clear g2
  go_wp2_with (first|((with_reducible refine aY 34 193 ?_);refine eW (cells:=ZW) rfl HBW.o ?_)|(refine o7 ?_;exact⟨_,rfl,rfl,S.x,S.fr⟩)|refine ew λW S=>?_)
 subst g2;rw[bX (λh=>h rfl)] at HT;obtain rfl:=HT.o;obtain⟨PB,hPB⟩:=gq (ah 3 (aN (l2 i2)));have HPB:=ae hPB;obtain⟨WA,hWA⟩:=gq (ah 51 (iL ⟨l1,l2,l2 i2⟩));have HWA:=ae hWA;clear hPB hWA
 go_wp2_with (first|((with_reducible refine Ga 39 191 38 37 ?_);refine acm hl2 rfl (by first | exact iS (Value.int .i64) hd2) ?_)|((with_reducible refine aG 40 106 39 ?_);refine nK S 0 rfl (o:=24+i2*3) (m:=3) rfl (aN (l2 i2)) (show 24+i2*3+3<=51 by omega) (aab _ hl2) HPB.o bd ?_)|((with_reducible refine aS 106 41 40 ?_);refine Dk S 0 rfl (o:=48) (m:=3) qv rfl rfl HPB.o bd (aE _) (λw' hr e=>by rw[e];exact Tx hr (l2 i2)) λW S=>?_)|(refine o7 ?_;exact⟨_,rfl,rfl,S.x,S.fr⟩)|refine fN ?_|refine ew λW S=>?_)
theorem NS (P D M:Nat)(s:Pl)(q:aq)(hq:bt q)(i:Int)(w:aD)(h:bH w P D M s):
 Calls prog 48 #[.pointer (some ⟨P,0,none⟩),iy q,.int .i64 i] w λe w'=>∃B,e=.returned (.tuple #[.agg B,.int .i64 (pW s q i).2.2])/\B=ah 128 (aw (pW s q i).2.1)/\bH w' P D M (pW s q i).1/\Fr (some D) [] w w':=by
 obtain⟨A,hA⟩:=gq (ah 3 (aN q));have hvq:=az hA;have S:=St.start w (some D) [] (bu P D M s) h;obtain⟨T,hT⟩:=cM (pW s q i);have HT:=ae hT;have C1:=ae λW=>zH i W;have hdv:=h.dev.ok;unfold pW at HT;rw[hT,hvq];have HA:=ae hA;obtain⟨ZS,hZS⟩:=gq (ah 128 (aw aX));have HZS:=ae hZS;have HBS:=ae (show prog.built 36 []=some ZS by rw[hZS];exact abh);clear hA h hT hZS;go_enter func48,ntmps48;cases hi:j5 i with
 | false=>
  rw[hi] at C1 HT;rw[bC rfl] at HT;obtain rfl:=HT.o;clear hi
  go_wp2_with (first|(go_at_call 108;refine qJ (C1.o _) ?_;)|((with_reducible refine aY 13 36 ?_);refine eW (cells:=ZS) rfl HBS.o ?_)|(refine o7 ?_;exact⟨_,rfl,rfl,S.x,S.fr⟩)|refine ew λW S=>?_)
 | true=>
  rw[hi] at C1 HT;rw[bX nh] at HT;obtain⟨k,rfl⟩: ∃k:Nat,i=(k:Int):=⟨i.toNat,by unfold j5 at hi;rw[yy] at hi;omega⟩;have hk:k<64:=by unfold j5 at hi;rw[yy] at hi;omega
  rw[BQ] at HT;have C2:=ae λW (X:bH W P D M s)=>vx P D M s q hq k hk W X;have hpy:=mf hdv q k;obtain⟨r,hr⟩:=cM (cg s q k);rw[hr] at C2 HT hpy;obtain⟨s1,y,c1⟩:=r;simp only at C2 HT hpy;rw[hvq] at C2;have C3:=ae λW (X:bH W P D M s1)=>tm P D M s1 y.block hpy.2.2 W X;obtain⟨PB,hPB⟩:=gq (ah 3 (aN y.block));rw[az hPB] at C3;have HPB:=ae hPB;clear hi hr hpy hPB hk
  go_upto_region 4 with(first|(go_at_call 108;refine qJ (C1.o _) ?_;)|(go_at_call 109;refine(C2.o _ S.x).mono ?_;rintro e W ⟨N,rfl,hN,hp,hf⟩;have HN:=ae hN;replace S:=S.call hf (λD e=>e) fh (bu P D M s1) (λB h=>hp);clear hN hp hf)|refine fN ?_|refine ew λW S=>?_)
  by_cases g1:c1=0
  case neg=>
   have g9: (c1 != 0)=true:=lh.2 g1;rw[bC g1] at HT;obtain rfl:=HT.o;clear g1
   go_wp2_with (first|((with_reducible refine aY 23 36 ?_);refine eW (cells:=ZS) rfl HBS.o ?_)|(refine o7 ?_;exact⟨_,rfl,rfl,S.x,S.fr⟩)|refine ew λW S=>?_)
  subst g1;rw[bX (λh=>h rfl)] at HT;obtain⟨s2,bs,c2⟩:=T;rw[HT.o] at C3;simp only at C3 ⊢
  go_wp2_with (first|((with_reducible refine pP ?_);refine oM_ S 0 rfl (o:=48) (m:=3) (aN y.block) (zR y) HPB.o ?_)|(go_at_call 110;refine(C3.o _ S.x).mono ?_;rintro e W ⟨B,rfl,hB,hp,hf⟩;have HB:=ae hB;replace S:=S.call hf (λD e=>e) fh (bu P D M s2) (λB h=>hp);clear hB hp hf)|(refine o7 ?_;exact⟨_,rfl,rfl,S.x,S.fr⟩)|refine ew λW S=>?_)
theorem NT (P D M:Nat)(s:Pl)(ho:s.dv.ops<=999999000)(q:aq)(hq:bt q)(i:Int)(v:bh)(b:aK)(w:aD)(h:bH w P D M s)(hv:eX w 5 v b):
 Calls prog 80 #[.pointer (some ⟨P,0,none⟩),iy q,.int .i64 i,v] w λe w'=>∃r,e=.returned (.tuple #[iy (kW s q i b).2.1,r,.int .i64 (kW s q i b).2.2.2])/\dh w' w.heap.size r (kW s q i b).2.2.1/\bH w' P D M (kW s q i b).1/\Fr (some D) [M] w w':=by
 obtain⟨A,hA⟩:=gq (ah 3 (aN q));have hvq:=az hA;have S:=St.start w (some D) [M] (bu P D M s) h;have hbb:=hv.2;obtain⟨ba,bc,rfl,-,-⟩:=hv.form;obtain⟨bl,HBL⟩:=qI b.length;rw[HBL.o] at hv ⊢;have HV:Hid (∀W,Fr (some D) [M] w W->eX W 5 (.slice ba bl bc) b):=ae λW f=>hv.fr f (.inr rfl) rfl;have C1:=ae λW=>zH i W;have h0:=And.intro h.dev.ok h.ok.1;obtain⟨T,HT⟩:=qI (kW s q i b);rw[HT.o,hvq];have HA:=ae hA;clear hA h hv;unfold kW at HT;go_enter func80,ntmps80;cases hi:j5 i with
 | false=>
  rw[hi] at C1 HT;rw[bC rfl] at HT;obtain rfl:=HT.o;clear hi
  go_wp2_with (first|(go_at_call 108;refine qJ (C1.o _) ?_;)|(refine o7 ?_;exact⟨_,by rw[az (q:=q) rfl];rfl,dh.nil _ _,S.x,S.fr⟩)|refine fN ?_|refine ew λW S=>?_)
 | true=>
  rw[hi] at C1 HT;rw[bX nh] at HT;obtain⟨k,rfl⟩: ∃k:Nat,i=(k:Int):=⟨i.toNat,by unfold j5 at hi;rw[yy] at hi;omega⟩;have hk:k<64:=by unfold j5 at hi;rw[yy] at hi;omega
  rw[HBL.o] at HT;clear hi;by_cases g1:128< (bl:Int)
  case pos=>
   rw[bC au] at HT;obtain rfl:=HT.o
   go_wp2_with (first|(go_at_call 108;refine qJ (C1.o _) ?_;)|(refine o7 ?_;exact⟨_,by rw[az (q:=q) rfl];rfl,dh.nil _ _,S.x,S.fr⟩)|refine fN ?_|refine ew λW S=>?_)
  rw[bX au,BQ] at HT;obtain⟨i1,hi1⟩:=cM (k / 8);obtain⟨i2,hi2⟩:=cM (k % 8);have hl1:i1<8:=au;have hl2:i2<8:=au;have hd1: (k:Int) / 8=(i1:Int):=au;have hd2: (k:Int) % 8=(i2:Int):=au;rw[hi1,hi2] at HT;have C2:=ae λW (X:bH W P D M s)=>vx P D M s q hq k hk W X;have hops:=oG s q k;have hpy:=mf h0.1 q k;have hst:=oH s q k;obtain⟨r,hr⟩:=cM (cg s q k);rw[hr] at C2 HT hops hpy hst;obtain⟨s1,y,c1⟩:=r;simp only at C2 HT hops hpy hst;rw[hvq] at C2;have HPY:=ae hpy;have HST:=ae (show ll s1.ay by rw[hst];exact h0.2);have HRL:Hid (∀W,Calls prog 143 #[.agg (ah 51 (iL y)),iy q,.int .i64 k] W λe w'=>∃v,e=.returned v/\dh w' W.heap.size v (jh y q k)/\dp W w'):=ae λW=>Ba y q k hk _ rfl W;clear hr hpy hst hi1 hi2
  go_upto_region 6 with(first|((with_reducible refine gT 5 106 1 ?_);refine rQ S rfl HA.o rfl λWB S=>?_)|(go_at_call 108;refine qJ (C1.o _) ?_;)|(go_at_call 109;refine(C2.o _ S.x).mono ?_;rintro e WW ⟨N,rfl,hN,hp,hf⟩;have HN:=ae hN;replace S:=S.call hf (λD e=>e) fh (bu P D M s1) (λB h=>hp);clear hN)|refine fN ?_|refine ew λW S=>?_)
  rw[<-HN.o,hvq] at HRL;by_cases gc1:c1=0
  case neg=>
   have g9: (c1 != 0)=true:=lh.2 gc1;rw[bC gc1] at HT;obtain rfl:=HT.o;clear gc1
   go_wp2_with (first|(refine o7 ?_;exact⟨_,by rw[az (q:=q) rfl];rfl,dh.nil _ _,S.x,S.fr⟩)|refine fN ?_|refine ew λW S=>?_)
  subst gc1;rw[bX (λh=>h rfl)] at HT;have C5:=ae λW (X:bH W P D M s1)=>jJ P D M s1.ay s1.base W X.row;have C6:=ae λW (X:bH W P D M s1)=>count_map M s1.mp W X.map;obtain⟨cn,hcn⟩:=cM (cZ s1.mp);rw[hcn] at C6 HT;clear hcn;by_cases g3:cn<3
  case pos=>
   rw[bC g3] at HT;obtain rfl:=HT.o
   go_wp2_with (first|(go_at_call 25;refine qJ (C5.o _ S.x) ?_)|(go_at_call 61;refine qJ (C6.o _ S.x) ?_)|(refine o7 ?_;exact⟨_,by rw[az (q:=q) rfl];rfl,dh.nil _ _,S.x,S.fr⟩)|refine fN ?_|refine ew λW S=>?_)
  rw[bX g3] at HT;have C7:=ae λW (X:bH W P D M s1) hv=>DD P D M s1 au 5 nh (.slice ba bl bc) b W X hv;have hp2:=Dj HST.o b hbb;have ho2:=Ce s1 b;have hs2:=wZ s1 b;obtain⟨u,hu⟩:=cM (pN s1 b);rw[hu] at C7 HT hp2 ho2 hs2;obtain⟨s2,p2,c2⟩:=u;simp only at C7 HT hp2 ho2 hs2;obtain⟨PB,hPB⟩:=gq (ah 3 (aN p2));rw[az hPB] at C7;have HPB:=ae hPB;have HP2:=ae hp2;have HS2:=ae (show ll s2.ay by rw[hs2];exact HST.o);clear hu hPB hp2 hs2
  go_upto_region 11 with(first|(go_at_call 25;refine qJ (C5.o _ S.x) ?_)|(go_at_call 61;refine qJ (C6.o _ S.x) ?_)|(go_at_call 141;refine(C7.o _ S.x (HV.o _ S.fr)).mono ?_;rintro e W ⟨rfl,hp,hf⟩;replace S:=S.call hf (λD e=>e) fh (bu P D M s2) (λB h=>hp))|refine ew λW S=>?_)
  by_cases gc2:c2=0
  case neg=>
   have g9: (c2 != 0)=true:=lh.2 gc2;rw[bC gc2] at HT;obtain rfl:=HT.o;clear gc2
   go_wp2_with (first|(refine o7 ?_;exact⟨_,by rw[az (q:=q) rfl];rfl,dh.nil _ _,S.x,S.fr⟩)|refine fN ?_|refine ew λW S=>?_)
  subst gc2;rw[bX (λh=>h rfl)] at HT;obtain⟨N2,HN2⟩:=BU (ah 24 (bJ y.second));obtain⟨N1,HN1⟩:=BU (ah 24 (bJ y.first));obtain⟨M2,hM2⟩:=gq (ah 24 (bJ (gr y.second i2 p2)));have HM2:=ae hM2;have C8:=ae λW (X:bH W P D M s2)=>oU P D M s2 au (gr y.second i2 p2) (λi _=>pG HPY.o.2.1 HP2.o i) M2 hM2 W X;have hsp:=jy (s:=s2) (by exact HS2.o) (gr y.second i2 p2);have hso:=iW s2 (gr y.second i2 p2);have hss:=jA s2 (gr y.second i2 p2);obtain⟨u,hu⟩:=cM (dg s2 (gr y.second i2 p2));rw[hu] at C8 HT hso hss hsp;obtain⟨s3,p3,c3⟩:=u;simp only at C8 HT hso hss hsp;obtain⟨PC,hPA⟩:=gq (ah 3 (aN p3));rw[az hPA] at C8;have HPC:=ae hPA;have Hp3:=ae hsp;have HS3:=ae (show ll s3.ay by rw[hss];exact HS2.o);have HOs3:=ae (show s3.dv.ops<=1000000000 - 0 by omega);clear hM2 hu hPA hsp hss
  go_upto_region 16 with(first|((with_reducible refine pP ?_);refine oM_ S 1 rfl (o:=24) (m:=24) (bJ y.second) (DC y) HN2.o ?_)|((with_reducible refine Ga 59 191 14 57 ?_);refine ixN hl2 rfl (by first | exact iS (Value.int .i64) hd2) ?_)|((with_reducible refine aS 106 59 58 ?_);refine Dk S 0 rfl (o:=i2*3) (m:=3) (show i2*3+3<=24 by omega) rfl rfl HPB.o bd (aE _) (λw' hr e=>A' hr i2 p2 e) λW S=>?_)|(go_at_call 142;refine(C8.o _ S.x).mono ?_;rintro e W ⟨rfl,hp,hf⟩;replace S:=S.call hf (λD e=>e) fh (bu P D M s3) (λB h=>hp))|refine fN ?_|refine ew λW S=>?_)
  by_cases gc3:c3=0
  case neg=>
   have g9: (c3 != 0)=true:=lh.2 gc3;rw[bC gc3] at HT;obtain rfl:=HT.o;clear gc3
   go_wp2_with (first|(refine o7 ?_;exact⟨_,by rw[az (q:=q) rfl];rfl,dh.nil _ _,S.x,S.fr⟩)|refine fN ?_|refine ew λW S=>?_)
  subst gc3;rw[bX (λh=>h rfl)] at HT;obtain⟨M1,hM1⟩:=gq (ah 24 (bJ (gr y.first i1 p3)));have HM1:=ae hM1;have C9:=ae λW (X:bH W P D M s3)=>oU P D M s3 (by have:=HOs3.o;omega) (gr y.first i1 p3) (λi _=>pG HPY.o.1 Hp3.o i) M1 hM1 W X;have hsp:=jy (s:=s3) (by exact HS3.o) (gr y.first i1 p3);have hso:=iW s3 (gr y.first i1 p3);have hss:=jA s3 (gr y.first i1 p3);obtain⟨u,hu⟩:=cM (dg s3 (gr y.first i1 p3));rw[hu] at C9 HT hso hss hsp;obtain⟨s4,p4,c4⟩:=u;simp only at C9 HT hso hss hsp;obtain⟨PE,hPA⟩:=gq (ah 3 (aN p4));rw[az hPA] at C9;have HPE:=ae hPA;have Hp4:=ae hsp;clear hM1 hu hPA hsp hss
  go_upto_region 21 with(first|((with_reducible refine pP ?_);refine oM_ S 3 rfl (o:=0) (m:=24) (bJ y.first) (F9 y) HN1.o ?_)|((with_reducible refine Ga 75 191 16 73 ?_);refine ixN hl1 rfl (by first | rfl) ?_)|((with_reducible refine aS 106 75 74 ?_);refine Dk S 0 rfl (o:=i1*3) (m:=3) (show i1*3+3<=24 by omega) rfl rfl HPC.o bd (aE _) (λw' hr e=>A' hr i1 p3 e) λW S=>?_)|(go_at_call 142;refine(C9.o _ S.x).mono ?_;rintro e W ⟨rfl,hp,hf⟩;replace S:=S.call hf (λD e=>e) fh (bu P D M s4) (λB h=>hp))|refine fN ?_|refine ew λW S=>?_)
  by_cases gc4:c4=0
  case neg=>
   have g9: (c4 != 0)=true:=lh.2 gc4;rw[bC gc4] at HT;obtain rfl:=HT.o;clear gc4
   go_wp2_with (first|(refine o7 ?_;exact⟨_,by rw[az (q:=q) rfl];rfl,dh.nil _ _,S.x,S.fr⟩)|refine fN ?_|refine ew λW S=>?_)
  subst gc4;rw[bX (λh=>h rfl)] at HT;obtain rfl:=HT.o
  go_upto_region 23 with(fail)
  try simp only[E0,Pb] at S
  obtain⟨TC,hTC⟩:=S.nm;rw[hTC] at S ⊢;clear hTC;refine bf S cm [⟨TC,106,3,aN p4⟩,⟨WW.heap.size,193,51,iL y⟩,⟨w.heap.size,106,3,aN q⟩] L9 λW S=>?_;refine gY 0 86 (.agg PE) rfl (lq (λw h=>h.row 0 rfl) rfl HPE.o bd) ?_;refine gY 1 87 (.agg N) rfl (lq (b:=WW.heap.size) (t:=193) (n:=51) (f:=iL y) (λw h=>h.row 1 rfl) rfl HN.o Hs) ?_;refine gY 2 88 (.agg A) rfl (lq (b:=w.heap.size) (t:=106) (n:=3) (f:=aN q) (λw h=>h.row 2 rfl) rfl HA.o bd) ?_;refine bp 3 89 _ ?_;refine mO 4 λK hK=>?_
  go_wp2_with fail
  refine(HRL.o _).mono ?_;rintro e W ⟨v,rfl,ho,hb⟩;replace S:=S.cU hb ho rfl rfl;clear ho;refine gM hK ?_;refine mO 5 λK hK=>?_;refine dL S 6 rfl rfl rfl HPE.o bd (aE _) λW S=>?_;refine gM hK ?_;refine bp 6 9 _ ?_;refine bp 7 10 _ ?_;refine uy ?_
  go_wp2_with (refine o7 ?_;exact⟨_,by rw[az (q:=p4) rfl];rfl,S.o0,S.x,S.fr⟩)
theorem Lf (P D M:Nat)(s:Pl)(ho:s.dv.ops<=999999000)(q:aq)(hq:bt q)(i:Int)(w:aD)(h:bH w P D M s):
 Calls prog 95 #[.pointer (some ⟨P,0,none⟩),iy q,.int .i64 i] w λe w'=>∃r,e=.returned (.tuple #[iy (iM s q i).2.1,r,.int .i64 (iM s q i).2.2.2])/\dh w' w.heap.size r (iM s q i).2.2.1/\bH w' P D M (iM s q i).1/\Fr (some D) [M] w w':=by
 obtain⟨A,hA⟩:=gq (ah 3 (aN q));have hvq:=az hA;have S:=St.start w (some D) [M] (bu P D M s) h;have C1:=ae λW=>zH i W;obtain⟨T,HT⟩:=qI (iM s q i);rw[HT.o,hvq];have HA:=ae hA;have h0:=And.intro h.dev.ok h.ok.1;clear hA h;go_enter func95,ntmps95;cases hi:j5 i with
 | false=>
  rw[hi] at C1;obtain rfl: (s,(q,[],(111:Int)))=T:=by rw[<-HT.o];unfold iM;rw[bC hi]
  clear hi
  go_wp2_with (first|(go_at_call 108;refine qJ (C1.o _) ?_;)|(refine o7 ?_;exact⟨_,by rw[az (q:=q) rfl];rfl,dh.nil _ _,S.x,S.fr⟩)|refine fN ?_|refine ew λW S=>?_)
 | true=>
  rw[hi] at C1;obtain⟨k,rfl⟩: ∃k:Nat,i=(k:Int):=⟨i.toNat,by unfold j5 at hi;rw[yy] at hi;omega⟩;have hk:k<64:=by unfold j5 at hi;rw[yy] at hi;omega
  have HT1:=ae (show(if(cg s q k).2.2≠0 then((cg s q k).1,(q,[],(cg s q k).2.2)) else if(cg s q k).2.1.block=hole then((cg s q k).1,(q,[],0)) else nP (cg s q k).1 (cg s q k).2.1 q k)=T by
   rw[<-HT.o];unfold iM;rw[bX (show ¬j5 (k:Int)=false by rw[hi];decide)];rfl)
  have C2:=ae λW (X:bH W P D M s)=>vx P D M s q hq k hk W X;have hops:=oG s q k;have hpy:=mf h0.1 q k;have hst:=oH s q k;clear hi HT;obtain⟨r,hr⟩:=cM (cg s q k);rw[hr] at C2 HT1 hops hpy hst;obtain⟨s1,y,c1⟩:=r;simp only at C2 HT1 hops hpy hst;have HPY:=ae hpy;have HST:=ae (show ll s1.ay by rw[hst];exact h0.2);clear hpy hst;rw[hvq] at C2;clear hr
  go_upto_region 4 with(first|((with_reducible refine gT 4 106 1 ?_);refine rQ S rfl HA.o rfl λWB S=>?_)|(go_at_call 108;refine qJ (C1.o _) ?_;)|(go_at_call 109;refine(C2.o _ S.x).mono ?_;rintro e WW ⟨N,rfl,hN,hp,hf⟩;have HN:=ae hN;replace S:=S.call hf (λD e=>e) fh (bu P D M s1) (λB h=>hp);clear hN)|refine fN ?_|refine ew λW S=>?_)
  by_cases g1:c1=0
  case neg=>
   have g2: (c1 != 0)=true:=lh.2 g1;obtain rfl: (s1,(q,[],c1))=T:=by rw[<-HT1.o,bC g1]
   clear g1
   go_wp2_with (first|(refine o7 ?_;exact⟨_,by rw[az (q:=q) rfl];rfl,dh.nil _ _,S.x,S.fr⟩)|refine fN ?_|refine ew λW S=>?_)
  subst g1;obtain⟨BA,hBA⟩:=gq (ah 3 (aN y.block));have HBA:=ae hBA;have hvb:=az hBA;obtain⟨zb,hzb⟩:=cM (decide (y.block=hole));have hez:=zz y.block hole zb hzb;obtain⟨ZH,hZH⟩:=gq (ah 3 (aN hole));have HZH:=ae hZH;have hvh:=az hZH;rw[hvb,hvh] at hez;have HB0:=ae (show prog.built 106 []=some ZH by rw[hZH,<-bz];exact F');have HZB:=ae hzb;clear hBA hvb hzb hvh hZH;cases zb with
  | true=>
   obtain rfl: (s1,(q,[],(0:Int)))=T:=by rw[<-HT1.o,bX (λh=>h rfl),bC (lK HZB.o)]
   go_wp2_with (first|((with_reducible refine pP ?_);refine oM_ S 0 rfl (o:=48) (m:=3) (aN y.block) (zR y) HBA.o ?_)|((with_reducible refine tl 31 106 ?_);refine cV cm ?_;refine eW (cells:=ZH) rfl HB0.o ?_)|(refine o7 ?_;exact⟨_,by rw[az (q:=q) rfl];rfl,dh.nil _ _,S.x,S.fr⟩)|refine fN ?_|refine ew λW S=>?_)
  | false=>
   have HT2:=ae (show nP s1 y q k=T by rw[<-HT1.o,bX (λh=>h rfl),bX (wx HZB.o)]);clear HT1 HZB
   go_upto_region 6 with(first|((with_reducible refine pP ?_);refine oM_ S 0 rfl (o:=48) (m:=3) (aN y.block) (zR y) HBA.o ?_)|((with_reducible refine tl 31 106 ?_);refine cV cm ?_;refine eW (cells:=ZH) rfl HB0.o ?_))
   obtain⟨N1,HN1⟩:=BU (ah 24 (bJ y.first));obtain⟨N2,HN2⟩:=BU (ah 24 (bJ y.second));obtain⟨i1,hi1⟩:=cM (k / 8);obtain⟨i2,hi2⟩:=cM (k % 8);have hl1:i1<8:=au;have hl2:i2<8:=au;have hd1: (k:Int) / 8=(i1:Int):=au;have hd2: (k:Int) % 8=(i2:Int):=au;obtain⟨n1,HQ1⟩:=BU (gr y.first i1 hole);obtain⟨n2,HQ2⟩:=BU (gr y.second i2 hole);obtain⟨M1,hM1⟩:=gq (ah 24 (bJ n1));obtain⟨M2,hM2⟩:=gq (ah 24 (bJ n2));have HM1:=ae hM1;have HM2:=ae hM2;have t0:=V5 (s:=s1) (y:=y) (root:=q) (i:=k);have t1:=V6 (s:=s1) (y:=y) (root:=q) (i:=k);have t2:=V7 (s:=s1) (y:=y) (root:=q) (i:=k);rw[hi1,hi2,<-HQ1.o,<-HQ2.o,HT2.o] at t0 t1;rw[hi1,hi2,<-HQ1.o,<-HQ2.o,HT2.o] at t2;obtain⟨b1,hb1⟩:=cM (oI n1);obtain⟨b2,hb2⟩:=cM (oI n2);have C3:=ae λW=>yI n1 M1 hM1 W;have C4:=ae λW=>yI n2 M2 hM2 W;rw[hb1] at C3 t0 t1;rw[hb2] at C4 t0 t1 t2;have C5:=ae λW (X:bH W P D M s1)=>jJ P D M s1.ay s1.base W X.row;have C6:=ae λW (X:bH W P D M s1)=>count_map M s1.mp W X.map;obtain⟨cn,hcn⟩:=cM (cZ s1.mp);rw[hcn] at C6 t1 t2;have HT0:=ae t0;have HT1:=ae t1;have HTT:=ae t2;have HOP:=ae hops;clear hi1 hi2 hM1 hM2 hb1 hb2 hcn HT2 t0 t1 t2 hops;refine bf S cm [⟨WW.heap.size,193,51,iL y⟩] L9 λW S=>?_;refine bp 0 36 (bZ WW.heap.size 0) ?_;refine gY 1 37 (.agg N1) rfl (Wz (λw h=>h.row 0 rfl) (o:=0) (m:=24) rfl (bJ y.first) qv (F9 y) HN1.o rk) ?_;refine bp 2 38 (bZ WW.heap.size 24) ?_;refine gY 3 39 (.agg N2) rfl (Wz (λw h=>h.row 0 rfl) (o:=24) (m:=24) rfl (bJ y.second) qv (DC y) HN2.o rk) ?_
   repeat' first|refine Zf ?_|refine JV 4 5 (λK hK=>?_) λK hK=>?_|refine tF 5 λK hK=>?_|refine tF 4 λK hK=>?_|refine tF 6 λK hK=>?_|refine tF 7 λK hK=>?_|(refine bG (dst:=11) S zeroValue191 qz rfl λE1 W S=>?_;refine gM hK ?_)|(refine bG (dst:=12) S zeroValue191 qz rfl λE2 W S=>?_;refine gM hK ?_)|((first |(refine dL S 0 rfl rfl rfl HN1.o rk (fi _) λW S=>?_) |(refine dL S 1 rfl rfl rfl HN1.o rk (fi _) λW S=>?_));refine gM hK ?_)|((first |(refine dL S 0 rfl rfl rfl HN2.o rk (fi _) λW S=>?_) |(refine dL S 1 rfl rfl rfl HN2.o rk (fi _) λW S=>?_));refine gM hK ?_)
   all_goals (
    refine ae ?_
    first |(replace S:St w (some D) [M] (⟨E2,191,24,bJ y.second⟩:: ⟨E1,191,24,bJ y.first⟩:: ⟨WW.heap.size,193,51,iL y⟩::_) [] _ W:=S) |(replace S:St w (some D) [M] (⟨E2,191,24,bJ y.second⟩:: ⟨E1,191,24,bJ y.first⟩:: ⟨WW.heap.size,193,51,iL y⟩::_) [] _ W:=S.WM)
    go_upto_region 10 with(first
   |((with_reducible refine Ga 43 191 12 41 ?_);refine ixN hl2 rfl (by first | exact iS (Value.int .i64) hd2) ?_)
   |((with_reducible refine Ga 47 191 11 45 ?_);refine ixN hl1 rfl (by first | rfl) ?_)
   |((with_reducible refine aS 106 43 42 ?_);refine Dk S 0 rfl (o:=i2*3) (m:=3) (show i2*3+3<=24 by omega) rfl rfl bz bd (aE _) (λw' hr e=>A' hr i2 hole e) λW S=>?_)
   |((with_reducible refine aS 106 47 46 ?_);refine Dk S 1 rfl (o:=i1*3) (m:=3) (show i1*3+3<=24 by omega) rfl rfl bz bd (aE _) (λw' hr e=>A' hr i1 hole e) λW S=>?_)
   |refine fN ?_)
    rw[<-HQ1.o,<-HQ2.o] at S;have C9:=ae λW=>Ba y q k hk N HN.o W;rw[hvq] at C9;cases b2 with
    | false=>
     have HT5:=ae (HTT.o rfl);clear HT0 HT1 HTT;by_cases g3:cn<2
     case pos=>
      rw[bC g3] at HT5;obtain rfl:=HT5.o
      go_wp2_with (first
   |(go_at_call 159;refine je S (C4.o _) λW S=>?_)
   |(go_at_call 25;refine qJ (C5.o _ S.x) ?_)
   |(go_at_call 61;refine qJ (C6.o _ S.x) ?_)
   |(refine o7 ?_;exact⟨_,by rw[az (q:=q) rfl];rfl,dh.nil _ _,S.x,S.fr⟩)
   |refine fN ?_
   |refine ew λW S=>?_)
     rw[bX g3] at HT5;have C7:=ae λW (X:bH W P D M s1)=>oU P D M s1 (by have:=HOP.o;omega) n2 (λi _=>by rw[HQ2.o];exact pG HPY.o.2.1 bD i) M2 HM2.o W X;have hsp:=jy (s:=s1) (by exact HST.o) n2;have hso:=iW s1 n2;have hss:=jA s1 n2;obtain⟨u,hu⟩:=cM (dg s1 n2);rw[hu] at C7 HT5 hso hss hsp;obtain⟨s2,p2,c2⟩:=u;simp only at C7 HT5 hso hss hsp;obtain⟨PA2,hPA⟩:=gq (ah 3 (aN p2));rw[az hPA] at C7;have HPA2:=ae hPA;have HSP2:=ae hsp;have HSO2:=ae hso;have HSS2:=ae hss;clear hu hPA hsp hso hss
     go_upto_region 18 with(first
   |(go_at_call 159;refine je S (C4.o _) λW S=>?_)
   |(go_at_call 25;refine qJ (C5.o _ S.x) ?_)
   |(go_at_call 61;refine qJ (C6.o _ S.x) ?_)
   |(go_at_call 142;refine(C7.o _ S.x).mono ?_;rintro e W ⟨rfl,hp,hf⟩;replace S:=S.call hf (λD e=>e) fh (bu P D M s2) (λB h=>hp))
   |((with_reducible refine Ga 74 191 11 68 ?_);refine ixN hl1 rfl (by first | rfl) ?_)
   |((with_reducible refine aS 106 74 72 ?_);refine Dk S 1 rfl (o:=i1*3) (m:=3) (show i1*3+3<=24 by omega) rfl rfl HPA2.o bd (aE _) (λw' hr e=>A' hr i1 p2 e) λW S=>?_)
   |refine fN ?_)
     clear C7;by_cases g5:c2=0
     case neg=>
      have g6: (c2 != 0)=true:=lh.2 g5;rw[bC g5] at HT5;obtain rfl:=HT5.o;clear g5
      go_wp2_with (first
   |(refine o7 ?_;exact⟨_,by rw[az (q:=q) rfl];rfl,dh.nil _ _,S.x,S.fr⟩)
   |refine fN ?_
   |refine ew λW S=>?_)
     subst g5;rw[bX (λh=>h rfl)] at HT5;obtain⟨M3,HM3⟩:=BU (ah 24 (bJ (gr n1 i1 p2)));have C7:=ae λW (X:bH W P D M s2)=>oU P D M s2 (by have:=HOP.o;have:=HSO2.o;omega) (gr n1 i1 p2) (λi _=>by rw[HQ1.o];exact pG (pG HPY.o.1 bD) HSP2.o i) M3 HM3.o W X;have hsp:=jy (s:=s2) (by have:=HSS2.o;rw[this];exact HST.o) (gr n1 i1 p2);have hso:=iW s2 (gr n1 i1 p2);have hss:=jA s2 (gr n1 i1 p2);obtain⟨u,hu⟩:=cM (dg s2 (gr n1 i1 p2));rw[hu] at C7 HT5 hso hss hsp;obtain⟨s3,p3,c3⟩:=u;simp only at C7 HT5 hso hss hsp;obtain⟨PA3,hPA⟩:=gq (ah 3 (aN p3));rw[az hPA] at C7;have HPA3:=ae hPA;have HSP3:=ae hsp;clear hu hPA hsp hso hss
     go_upto_region 23 with(first
   |(go_at_call 142;refine(C7.o _ S.x).mono ?_;rintro e W ⟨rfl,hp,hf⟩;replace S:=S.call hf (λD e=>e) fh (bu P D M s3) (λB h=>hp))
   |refine fN ?_
   |refine ew λW S=>?_)
     by_cases g7:c3=0
     case neg=>
      have g8: (c3 != 0)=true:=lh.2 g7;rw[bC g7] at HT5;obtain rfl:=HT5.o;clear g7
      go_wp2_with (first
   |(refine o7 ?_;exact⟨_,by rw[az (q:=q) rfl];rfl,dh.nil _ _,S.x,S.fr⟩)
   |refine fN ?_
   |refine ew λW S=>?_)
     subst g7;rw[bX (λh=>h rfl)] at HT5;obtain rfl:=HT5.o;obtain⟨PX,HPX⟩:=BU (ah 3 (aN p3))
     go_upto_region 25 with(fail)
     try simp only[E0,Pb] at S
     obtain⟨TC,hTC⟩:=S.nm;rw[hTC] at S ⊢;clear hTC;refine bf S cm [⟨TC,106,3,aN p3⟩,⟨WW.heap.size,193,51,iL y⟩,⟨w.heap.size,106,3,aN q⟩] L9 λW S=>?_;refine gY 0 91 (.agg PX) rfl (lq (λw h=>h.row 0 rfl) rfl HPX.o bd) ?_;refine gY 1 92 (.agg N) rfl (lq (b:=WW.heap.size) (t:=193) (n:=51) (f:=iL y) (λw h=>h.row 1 rfl) rfl HN.o Hs) ?_;refine gY 2 93 (.agg A) rfl (lq (b:=w.heap.size) (t:=106) (n:=3) (f:=aN q) (λw h=>h.row 2 rfl) rfl HA.o bd) ?_;refine bp 3 94 _ ?_;refine mO 4 λK hK=>?_
     go_wp2_with fail
     refine(C9.o _).mono ?_;rintro e W ⟨v,rfl,ho,hb⟩;replace S:=S.cU hb ho rfl rfl;clear ho;refine gM hK ?_;refine mO 5 λK hK=>?_;refine dL S 4 rfl rfl rfl HPX.o bd (aE _) λW S=>?_;refine gM hK ?_;refine bp 6 7 _ ?_;refine bp 7 8 _ ?_;refine uy ?_
     go_wp2_with (refine o7 ?_;exact⟨_,by rw[az (q:=p3) rfl];rfl,S.o0,S.x,S.fr⟩)
    | true=>
     clear HTT;cases b1 with
     | false=>
      have HT5:=ae (HT1.o rfl rfl);clear HT0 HT1;by_cases g3:cn<1
      case pos=>
       rw[bC g3] at HT5;obtain rfl:=HT5.o
       go_wp2_with (first
   |(with_reducible first|refine jj 52 191 11 S 1 HM1.o ?_)
   |(go_at_call 159;refine je S (C4.o _) λW S=>?_)
   |(go_at_call 159;refine je S (C3.o _) λW S=>?_)
   |(go_at_call 25;refine qJ (C5.o _ S.x) ?_)
   |(go_at_call 61;refine qJ (C6.o _ S.x) ?_)
   |(refine o7 ?_;exact⟨_,by rw[az (q:=q) rfl];rfl,dh.nil _ _,S.x,S.fr⟩)
   |refine fN ?_
   |refine ew λW S=>?_)
      rw[bX g3] at HT5
      go_upto_region 20 with(first
   |(with_reducible first|refine jj 52 191 11 S 1 HM1.o ?_)
   |(go_at_call 159;refine je S (C4.o _) λW S=>?_)
   |(go_at_call 159;refine je S (C3.o _) λW S=>?_)
   |(go_at_call 25;refine qJ (C5.o _ S.x) ?_)
   |(go_at_call 61;refine qJ (C6.o _ S.x) ?_)
   |refine fN ?_)
      obtain⟨M3,HM3⟩:=BU (ah 24 (bJ (n1)));have C7:=ae λW (X:bH W P D M s1)=>oU P D M s1 (by have:=HOP.o;omega) (n1) (λi _=>by rw[HQ1.o];exact pG HPY.o.1 bD i) M3 HM3.o W X;have hsp:=jy (s:=s1) (by exact HST.o) (n1);have hso:=iW s1 (n1);have hss:=jA s1 (n1);obtain⟨u,hu⟩:=cM (dg s1 (n1));rw[hu] at C7 HT5 hso hss hsp;obtain⟨s3,p3,c3⟩:=u;simp only at C7 HT5 hso hss hsp;obtain⟨PA3,hPA⟩:=gq (ah 3 (aN p3));rw[az hPA] at C7;have HPA3:=ae hPA;have HSP3:=ae hsp;clear hu hPA hsp hso hss
      go_upto_region 23 with(first
   |(go_at_call 142;refine(C7.o _ S.x).mono ?_;rintro e W ⟨rfl,hp,hf⟩;replace S:=S.call hf (λD e=>e) fh (bu P D M s3) (λB h=>hp))
   |refine fN ?_
   |refine ew λW S=>?_)
      by_cases g7:c3=0
      case neg=>
       have g8: (c3 != 0)=true:=lh.2 g7;rw[bC g7] at HT5;obtain rfl:=HT5.o;clear g7
       go_wp2_with (first
   |(refine o7 ?_;exact⟨_,by rw[az (q:=q) rfl];rfl,dh.nil _ _,S.x,S.fr⟩)
   |refine fN ?_
   |refine ew λW S=>?_)
      subst g7;rw[bX (λh=>h rfl)] at HT5;obtain rfl:=HT5.o;obtain⟨PX,HPX⟩:=BU (ah 3 (aN p3))
      go_upto_region 25 with(fail)
      try simp only[E0,Pb] at S
      obtain⟨TC,hTC⟩:=S.nm;rw[hTC] at S ⊢;clear hTC;refine bf S cm [⟨TC,106,3,aN p3⟩,⟨WW.heap.size,193,51,iL y⟩,⟨w.heap.size,106,3,aN q⟩] L9 λW S=>?_;refine gY 0 91 (.agg PX) rfl (lq (λw h=>h.row 0 rfl) rfl HPX.o bd) ?_;refine gY 1 92 (.agg N) rfl (lq (b:=WW.heap.size) (t:=193) (n:=51) (f:=iL y) (λw h=>h.row 1 rfl) rfl HN.o Hs) ?_;refine gY 2 93 (.agg A) rfl (lq (b:=w.heap.size) (t:=106) (n:=3) (f:=aN q) (λw h=>h.row 2 rfl) rfl HA.o bd) ?_;refine bp 3 94 _ ?_;refine mO 4 λK hK=>?_
      go_wp2_with fail
      refine(C9.o _).mono ?_;rintro e W ⟨v,rfl,ho,hb⟩;replace S:=S.cU hb ho rfl rfl;clear ho;refine gM hK ?_;refine mO 5 λK hK=>?_;refine dL S 4 rfl rfl rfl HPX.o bd (aE _) λW S=>?_;refine gM hK ?_;refine bp 6 7 _ ?_;refine bp 7 8 _ ?_;refine uy ?_
      go_wp2_with (refine o7 ?_;exact⟨_,by rw[az (q:=p3) rfl];rfl,S.o0,S.x,S.fr⟩)
     | true=>
      have HT5:=ae (HT0.o rfl rfl);obtain rfl:=HT5.o;have g3: ¬(cn:Int)<0:=au
      go_upto_region 20 with(first
   |(with_reducible first|refine jj 52 191 11 S 1 HM1.o ?_)
   |(go_at_call 159;refine je S (C4.o _) λW S=>?_)
   |(go_at_call 159;refine je S (C3.o _) λW S=>?_)
   |(go_at_call 25;refine qJ (C5.o _ S.x) ?_)
   |(go_at_call 61;refine qJ (C6.o _ S.x) ?_)
   |refine fN ?_)
      obtain⟨PX,HPX⟩:=BU (ah 3 (aN hole))
      go_upto_region 25 with(refine ew λW S=>?_)
      try simp only[E0,Pb] at S
      obtain⟨TC,hTC⟩:=S.nm;rw[hTC] at S ⊢;clear hTC;refine bf S cm [⟨TC,106,3,aN hole⟩,⟨WW.heap.size,193,51,iL y⟩,⟨w.heap.size,106,3,aN q⟩] L9 λW S=>?_;refine gY 0 91 (.agg PX) rfl (lq (λw h=>h.row 0 rfl) rfl HPX.o bd) ?_;refine gY 1 92 (.agg N) rfl (lq (b:=WW.heap.size) (t:=193) (n:=51) (f:=iL y) (λw h=>h.row 1 rfl) rfl HN.o Hs) ?_;refine gY 2 93 (.agg A) rfl (lq (b:=w.heap.size) (t:=106) (n:=3) (f:=aN q) (λw h=>h.row 2 rfl) rfl HA.o bd) ?_;refine bp 3 94 _ ?_;refine mO 4 λK hK=>?_
      go_wp2_with fail
      refine(C9.o _).mono ?_;rintro e W ⟨v,rfl,ho,hb⟩;replace S:=S.cU hb ho rfl rfl;clear ho;refine gM hK ?_;refine mO 5 λK hK=>?_;refine dL S 4 rfl rfl rfl HPX.o bd (aE _) λW S=>?_;refine gM hK ?_;refine bp 6 7 _ ?_;refine bp 7 8 _ ?_;refine uy ?_
      go_wp2_with (refine o7 ?_;exact⟨_,by rw[az (q:=hole) rfl];rfl,S.o0,S.x,S.fr⟩)
    )
theorem NU (P D M0:Nat)(s:Pl)(q:aq)(hq:bt q)(st:Nat)(w:World)(h:bH w P D M0 s):
 Calls prog 89 #[.pointer (some ⟨P,0,none⟩),iy q,.int .u64 (st:Nat)] w λe w'=>∃r,e=.returned (.tuple #[r,.int .i64 (iK s q st).2.2])/\dh w' w.heap.size r (iK s q st).2.1/\bH w' P D M0 (iK s q st).1/\Fr (some D) [] w w':=by
 obtain⟨A,hA⟩:=gq (ah 3 (aN q));rw[az hA];have HA:=ae hA;clear hA;have HQ:=ae hq;clear hq;have S:=St.start w (some D) [] (bu P D M0 s) h;have C1:=ae λw=>az HA.o ▸ uX q st w;have C2:=ae λw h=>az HA.o ▸ qX P D M0 s q HQ.o w h;have S0:=h;clear h;go_enter func89,ntmps89;cases hb:fv q st with
 | false=>
  rw[hb] at C1;rw[Qa hb]
  go_wp2_with (first|(go_at_call 154;refine je S (C1.o _) λW S=>?_)|go_step3|simp only[II,IJ]|refine fN ?_|refine ew λW S=>?_)
  try rw[Exit.noGoto_ret]
  go_ret2;exact⟨_,rfl,dh.nil _ _,S.x,S.fr⟩
 | true=>
  rw[hb] at C1;rcases hu:aO s q with⟨s1,l1,c1⟩;rw[hu] at C2;by_cases hc:c1=0
  . subst hc;rw[Qb hb hu]
    go_wp2_with (first
   |(go_at_call 154;refine je S (C1.o _) λW S=>?_)
   |(go_at_call 155;refine(C2.o _ S.x).mono ?_;rintro e W ⟨N,rfl,hN,hp,hf⟩;have HN:=ae hN;replace S:=S.call hf (λD e=>e) fh (bu P D M0 s1) (λ_ _=>hp);clear hp hf hN)
   | go_step3
   | simp only[II,IJ]
   |refine fN ?_
   |refine ew λW S=>?_)
    have S:=ae (show St w (some D) [] _ [⟨106,3,_,1,eo [q]⟩] _ _ from by have:=(S.JU rfl);rw[kG];exact this);have HL:=ae λk=>oF (s:=s) (by exact S0.dev.ok) q k
    go_loopw [33,10] (λi v wr=>∃k M s',k<=8/\i=.int .i64 (k:Nat)/\M.length<=1+9*k/\Hid (yL st ((iT l1).take k) (s1,([q],0))=(s',(M,0))/\St w (some D) [] [⟨_,191,24,bJ l1⟩,⟨_,106,3,aN q⟩] [⟨106,3,v,M.length,eo M⟩] (Ae P D M0 s') wr)) (λi _ _=>8 - (intOf i).toNat)
    case atStart=>exact⟨0,[q],s1,au,rfl,by simp,rfl,S.o⟩
    case round=>
     obtain⟨k,M,s',hk,rfl,hM,hS⟩:=hrel;by_cases hlt:k<8
     . have hsn:=P' (iX st) (s1,([q],0)) (iT l1) (k:=k) (by rw[kH];exact hlt);rw[Cf] at hsn;have hfo:=hS.o.1;unfold yL at hfo;rw[hfo] at hsn;clear hfo;replace S:=hS.o.2;clear hS;obtain⟨p,hp⟩:=cM (l1 k);have hpp:bt p:=by have:=HL.o k;rw[hu] at this;rw[<-hp];exact this
       obtain⟨C,hC⟩:=gq (ah 3 (aN p));have HIX:=ae λW=>(show(Instr.index 191 (.agg N) (.int .i64 (k:Nat))).run prog W=.ok (.agg C) W by rw[HN.o,hC,<-hp];exact u1 l1 k hlt W);rw[hp] at hsn;have HSN:=ae hsn;have HC:=ae hC;clear hC hsn;have C3:=ae λw=>az HC.o ▸ uX p st w;have C4:=ae λw h=>az HC.o ▸ qX P D M0 s' p hpp w h;cases hs:fv p st with
       | false=>
        rw[hs] at C3;have hst:iX st (s',(M,0)) p=(s',(M,0)):=by unfold iX;simp[hs]
        rw[hst] at HSN
        go_wp2_with (first
   |((with_reducible refine s7 35 191 32 33 ?_);refine Dl rfl rfl HIX.o ?_)
   |((with_reducible refine aS 106 12 35 ?_);refine kP S rfl rfl HC.o bd rfl (by rfl) (aE _) λW S=>?_)
   |(go_at_call 154;refine je S (C3.o _) λW S=>?_)
   | go_step3
   | simp only[II,IJ]
   |refine fN ?_)
        replace S:=ae (And.intro HSN.o S.pop);go_roundw
        case rel=>exact⟨k+1,M,s',au,by go_num,au,S⟩
        case measure=>simp[intOf];omega
       | true=>
        rw[hs] at C3;rcases hu2:aO s' p with⟨s2,l2,c2⟩;rw[hu2] at C4;by_cases hc2:c2=0
        . subst hc2;have hst:iX st (s',(M,0)) p=(s2,(M++p:: (iT l2).filter (fv · st),0)):=by unfold iX;simp[hs,hu2]
          rw[hst] at HSN
          go_wp2_with (first
   |((with_reducible refine s7 35 191 32 33 ?_);refine Dl rfl rfl HIX.o ?_)
   |(go_at_call 154;refine je S (C3.o _) λW S=>?_)
   |(go_at_call 155;refine(C4.o _ S.x).mono ?_;rintro e W ⟨N2,rfl,hN2,hpl,hf⟩;have HN2:=ae hN2;replace S:=S.call hf (λD e=>e) fh (bu P D M0 s2) (λ_ _=>hpl);clear hpl hf hN2)
   |((with_reducible refine bN 52 49 51 ?_);refine lZ S 0 rfl 0 rfl rfl rfl rfl cN (aE _) (by simp only;omega) (by unfold maxLen;simp only;omega) λg cap W S=>?_)
   | go_step3
   | simp only[II,IJ]
   |refine fN ?_
   |refine ew λW S=>?_)
          obtain⟨G,hG⟩:=gq (M++[p]);have hGl:G.length=M.length+1:=by rw[hG];simp
          have S:=ae (show St w (some D) [] _ [⟨106,3,.slice (some ⟨g,0,none⟩) (M.length+1) cap,G.length,eo G⟩] _ _ from by rw[hGl,hG,dU,kG];exact S.pop);have hst2: ∀F,M++p::F=G++F:=λF=>by rw[hG,Hh];rfl
          rw[hst2] at HSN;clear hst2 hG
          go_loopw [10,54] (λv i wr=>∃j,j<=8/\i=.int .i64 (j:Nat)/\Hid (St w (some D) [] [⟨_,191,24,bJ l2⟩,⟨_,106,3,aN p⟩,⟨_,191,24,bJ l1⟩,⟨_,106,3,aN q⟩] [⟨106,3,v,(G++((iT l2).take j).filter (fv · st)).length,eo (G++((iT l2).take j).filter (fv · st))⟩] (Ae P D M0 s2) wr)) (λ_ i _=>8 - (intOf i).toNat)
          case atStart=>exact⟨0,au,rfl,ae (by rw[take_zero,filter_nil,ET];exact S.o)⟩
          case round=>
           obtain⟨j,hj,rfl,hS⟩:=hrel;by_cases hjl:j<8
           . have hfs:=sZ (fv · st) (iT l2) (k:=j) (by rw[kH];exact hjl);rw[Cf] at hfs;obtain⟨r,hr⟩:=cM (l2 j);obtain⟨B,hB⟩:=gq (ah 3 (aN r));have HIY:=ae λW=>(show(Instr.index 191 (.agg N2) (.int .i64 (j:Nat))).run prog W=.ok (.agg B) W by rw[HN2.o,hB,<-hr];exact u1 l2 j hjl W);rw[hr] at hfs;have HB:=ae hB;clear hB;have C5:=ae λw=>az HB.o ▸ uX r st w;have hfl:=SA (fv · st) ((iT l2).take j);rw[pM] at hfl;obtain⟨Y,hY⟩:=gq (G++((iT l2).take j).filter (fv · st));have hYl:Y.length<=80:=by rw[hY,kh];omega
             rw[<-hY] at hS;replace S:=hS.o;clear hS;cases hs2:fv r st with
             | false=>
              rw[hs2] at C5 hfs;have HY:Hid (G++((iT l2).take (j+1)).filter (fv · st)=Y):=ae (by rw[hfs,hY];simp);clear hfs hY
              go_wp2_with (first
   |((with_reducible refine s7 56 191 53 54 ?_);refine Dl rfl rfl HIY.o ?_)
   |((with_reducible refine aS 106 16 56 ?_);refine kP S rfl rfl HB.o bd rfl (by rfl) (aE _) λW S=>?_)
   |(go_at_call 154;refine je S (C5.o _) λW S=>?_)
   | simp only[II,IJ]
   |refine fN ?_)
              go_roundw
              case rel=>exact⟨j+1,au,by go_num,by rw[HY.o];exact ae S.pop⟩
              case measure=>simp[intOf];omega
             | true=>
              rw[hs2] at C5 hfs;have HY:Hid (G++((iT l2).take (j+1)).filter (fv · st)=Y++[r]):=ae (by rw[hfs,hY];simp);clear hfs hY
              go_wp2_with (first
   |((with_reducible refine s7 56 191 53 54 ?_);refine Dl rfl rfl HIY.o ?_)
   |(go_at_call 154;refine je S (C5.o _) λW S=>?_)
   |((with_reducible refine bN 64 61 63 ?_);refine lZ S 0 rfl 0 rfl rfl rfl rfl cN (aE _) (by simp only;omega) (by unfold maxLen;simp only;omega) λg cap W S=>?_)
   | simp only[II,IJ]
   |refine fN ?_
   |refine ew λW S=>?_)
              go_roundw
              case rel=>exact⟨j+1,au,by go_num,by rw[HY.o,kh,dU,kG];exact ae S.pop.pop⟩
              case measure=>simp[intOf];omega
           . obtain rfl:j=8:=au;have hS2:=hS.o;rw[tX (by rw[kH];exact eO _)] at hS2;have HS2:=ae (And.intro HSN.o hS2.pop.pop);have hgl: (G++(iT l2).filter (fv · st)).length<=1+9* (k+1):=by
              have:=SA (fv · st) (iT l2);rw[kH] at this;rw[kh];omega
             clear hS hS2
             go_wp2_with (simp only[II,IJ])
             go_roundw
             case rel=>exact⟨k+1,_,s2,au,by go_num,hgl,HS2⟩
             case measure=>simp[intOf];omega
        . have g: (c2 != 0)=true:=by simpa using hc2
          have hst:iX st (s',(M,0)) p=(s2,([],c2)):=by unfold iX;simp[hs,hu2,hc2]
          rw[hst] at HSN
          go_wp2_with (first
   |((with_reducible refine s7 35 191 32 33 ?_);refine Dl rfl rfl HIX.o ?_)
   |((with_reducible refine aS 106 12 35 ?_);refine kP S rfl rfl HC.o bd rfl (by rfl) (aE _) λW S=>?_)
   |(go_at_call 154;refine je S (C3.o _) λW S=>?_)
   |(go_at_call 155;refine(C4.o _ S.x).mono ?_;rintro e W ⟨N2,rfl,hN2,hpl,hf⟩;have HN2:=ae hN2;replace S:=S.call hf (λD e=>e) fh (bu P D M0 s2) (λ_ _=>hpl);clear hpl hf hN2)
   |((with_reducible refine aS 191 13 44 ?_);refine kP S rfl rfl HN2.o rk rfl (by rfl) (fi _) λW S=>?_)
   | go_step3
   | simp only[II,IJ]
   |refine fN ?_)
          try rw[Exit.noGoto_ret]
          go_ret2;have hr:yL st (iT l1) (s1,([q],0))=(s2,([],c2)):=by
           unfold yL;rw[Nc _ _ _ (k+1),HSN.o];exact TD hc2
          rw[hr];exact⟨_,rfl,dh.nil _ _,S.x,S.fr⟩
     . obtain rfl:k=8:=au;have hfo:=hS.o.1;rw[tX (by rw[kH];exact eO _)] at hfo;have HFO:=ae hfo;clear hfo;replace S:=hS.o.2;clear hS
       go_wp2_with (first
   | go_step3
   | simp only[II,IJ])
       try rw[Exit.noGoto_ret]
       go_ret2;rw[HFO.o];exact⟨_,rfl,S.o0,S.x,S.fr⟩
  . rw[Nd hb hu hc];have g: (c1 != 0)=true:=by simpa using hc
    go_wp2_with (first
   |(go_at_call 154;refine je S (C1.o _) λW S=>?_)
   |(go_at_call 155;refine(C2.o _ S.x).mono ?_;rintro e W ⟨N,rfl,hN,hp,hf⟩;have HN:=ae hN;replace S:=S.call hf (λD e=>e) fh (bu P D M0 s1) (λ_ _=>hp);clear hp hf hN)
   | go_step3
   | simp only[II,IJ]
   |refine fN ?_
   |refine ew λW S=>?_)
    go_ret2;exact⟨_,rfl,dh.nil _ _,S.x,S.fr⟩
theorem ye {f:β->α->β}{b:β}(h: ∀x,f b x=b)(l:List α):l.foldl f b=b:=by
 induction l<;>grind
theorem zS {f:β->α->β}{a b:β}{l:List α}(hk: (l.take k).foldl f a=b)(h: ∀x,f b x=b):l.foldl f a=b:=by
 conv=>lhs;rw[<-Sv k l]
 rw[Km,hk,ye h]
theorem pK {f:β->α->β}{a b:β}{l:List α}{x:α}(hk: (l.take k).foldl f a=b)(hx:l[k]? =some x): (l.take (k+1)).foldl f a=f b x:=by
 grind[take_add_one]
def yf (l:Nat->aq) (m:Nat):Bool:=(range 8).all λi=>decide (l i≠hole)==decide (i<m)
theorem QE {l:Nat->aq}(hi:i<8)(h: (decide (l i≠hole)==decide (i<m))=false):yf l m=false:=by
 grind[yf]
theorem NW {l:Nat->aq}(h: ∀i,i<8->(decide (l i≠hole)==decide (i<m))=true):yf l m=true:=by
 grind[yf]
def cx (l:List aq):Prop:=∀q∈l,bt q
theorem bm:cx []:=λ_ h=>absurd h kz
def dj (want:Nat) (a:Pl×(List aq×Int)) (q:aq):Pl×(List aq×Int):=
 if a.2.2≠0 then a else
 if(aO a.1 q).2.2≠0 then((aO a.1 q).1,([],(aO a.1 q).2.2)) else
 if yf (aO a.1 q).2.1 (min 8 (want - a.2.1.length))=true then((aO a.1 q).1,(a.2.1++(iT (aO a.1 q).2.1).take (min 8 (want - a.2.1.length)),0))
 else((aO a.1 q).1,([],91))
def cT (s:Pl) (l:List aq) (want:Nat):Pl×(List aq×Int):=l.foldl (dj want) (s,([],0))
theorem Gb (hc:c≠0)(q:aq):dj want (s,([],c)) q=(s,([],c)):=by
 grind[dj]
theorem r9 (hk: (l.take k).foldl (dj want) (s,([],0))=(s1,(M,0)))(hq:l[k]? =some q)(hs:dj want (s1,(M,0)) q=(s2,([],c)))(hc:c≠0):cT s l want=(s2,([],c)):=
 zS (k:=k+1) ((pK hk hq).trans hs) (Gb hc)
theorem QF (b y:Nat)(hy:y<=8)(W:aD): (Instr.sliceAt 191 (.pointer (some ⟨b,0,none⟩)) none (some (.int .i64 y)) none).run prog W=.ok (.slice (some ⟨b,0,none⟩) y 8) W:=by
 have hu:prog.underlying 191=some (.array 8 106):=PV;obtain⟨it,hi,hs⟩:=oE eT
 simp_all[Instr.sliceBound,asIntOf,Instr.sliceAt,Instr.sureAddr,Instr.sliceBounds,Addr.add]
theorem yg (h:ag w b t n f){cap:Nat}(hx:xs.length=m*z)(hm:m<=cap)(hc:cap<=maxLen)(hg: ∀j u,xs[j]? =some u->j<n/\f j=u):ar w t z (.slice (some ⟨b,0,none⟩) m cap) m xs:=
 ⟨hx,_,_,rfl,hm,hc,λ_=>⟨b,0,_,_,rfl,h,λj u hu=>by
  simp_all[aF]⟩⟩
theorem QG (l:Nat->aq)(hm:m<=8): ∀j u,(eo ((iT l).take m))[j]? =some u->j<24/\bJ l j=u:=by
 intro j u h;have hl: ((iT l).take m).length=m:=by grind[kH]
 have hj:j<m*3:=by
  grind[rO]
 have hk:j / 3< ((iT l).take m).length:=au;have hs:=fF ((iT l).take m) hk (A:=ah 3 (aN (l (j / 3)))) (by
  grind[Cf]) (j % 3) au
 rw[show j / 3*3+j % 3=j by omega,h,aF,bC au] at hs
 grind[bJ]
theorem IK (P D M0:Nat)(s:Pl)(l:List aq)(v:bh)(hll:l.length<=1000000)(hl: ∀q∈l,bt q)(want:Nat)(hw:want<=1000000)(w:aD)(h:bH w P D M0 s)(R:fM w v l):
 Calls prog 193 #[.pointer (some ⟨P,0,none⟩),v,.int .i64 want] w λe w'=>∃r,e=.returned (.tuple #[r,.int .i64 (cT s l want).2.2])/\dh w' w.heap.size r (cT s l want).2.1/\cx (cT s l want).2.1/\bH w' P D M0 (cT s l want).1/\Fr (some D) [] w w':=by
 obtain⟨ao,cap,rfl,hcap,hao⟩:=aR R;have RL:=ae R;have hao:=ae hao;have HQ:=ae hl;have S:=St.start w (some D) [] (bu P D M0 s) h;clear R hl h;go_enter func193,ntmps193
 go_wp2_with ((with_reducible refine qm 18 107 ?_);refine Dp S (by':=24) cN rfl rfl au BM rfl rfl λg W S=>?_)
 go_loopw [21,8] (λi u wr=>∃k M s' ua uc,k<=l.length/\i=.int .i64 k/\M.length<=want/\u=.slice ua M.length uc/\Hid ((l.take k).foldl (dj want) (s,([],0))=(s',(M,0))/\(∀q∈M,bt q)/\St w (some D) [] [] [⟨106,3,.slice ua M.length uc,M.length,eo M⟩] (Ae P D M0 s') wr)) (λi _ _=>l.length - (intOf i).toNat)
 case atStart=>exact⟨0,[],s,_,_,au,rfl,by simp,rfl,ae ⟨rfl,λ_ h=>absurd h kz,S⟩⟩
 case round=>
  clear S;obtain⟨k,M,s',ua,uc,hk,rfl,hM,rfl,hS⟩:=hrel;by_cases hlt:k<l.length
  . obtain⟨b,o,rfl⟩:=hao.o au;obtain⟨q,hq⟩:=cM (l[k]);have hq2:l[k]? =some q:=by rw[j4 hlt,hq]
    obtain⟨AQ,hAQ⟩:=gq (ah 3 (aN q));have hsub:=ae (fF l hlt (A:=AQ) (by rw[hq];exact hAQ));have hpq:bt q:=HQ.o q (hq ▸ tW _);have HAQ:=ae hAQ;obtain⟨S,S2⟩:Hid (St w (some D) [] [] [⟨106,3,.slice ua M.length uc,M.length,eo M⟩] (Ae P D M0 s') wr)/\Hid ((l.take k).foldl (dj want) (s,([],0))=(s',(M,0))):=⟨ae hS.o.2.2,ae hS.o.1⟩;have HMP:=ae hS.o.2.1;have hok:=wU S.o.x.dev.ok q;have S:=S.o;clear hS hq hAQ;have C1:=ae λW h=>az HAQ.o ▸ tm P D M0 s' q hpq W h;have htl:aO s' q=if(dW s' q).2.2≠0 then((dW s' q).1,(ph,(dW s' q).2.2)) else match sE (dW s' q).2.1 with | none=>((dW s' q).1,(ph,91)) | some l=>((dW s' q).1,(l,0)):=rfl
    rcases hg:dW s' q with⟨s1,sec,c1⟩;rw[hg] at C1 hok htl;simp only at C1 hok htl;clear hg;by_cases hc:c1=0
    . subst hc;rw[bX fh] at htl;cases hn:sE sec with
      | none=>
       rw[hn] at htl;have hst:cT s l want=(s1,([],91)):=r9 S2.o hq2 (by unfold dj;rw[htl];simp) nh;have HST:=ae hst;have C2:=ae λB (hB:B=ah 128 (aw sec)) W=>u2 sec hok B hB W;rw[hn] at C2;have e51:codeF 51 (none:Option (Nat->aq))=51:=rfl;rw[e51] at C2;clear hst htl hq2 hn e51
       go_wp2_with (first
   |((with_reducible refine pP ?_);refine Md (RL.o.fr S.fr (.inr rfl) rfl) hlt (DW HAQ) hsub.o ?_)
   |((with_reducible refine aS 106 10 24 ?_);refine kP S rfl rfl HAQ.o bd rfl pB (aE _) λW S=>?_)
   |(go_at_call 110;refine(C1.o _ S.x).mono ?_;rintro e W ⟨B,rfl,hB,hp,hf⟩;have HB:=ae hB;replace S:=S.call hf (λD e=>e) fh (bu P D M0 s1) (λ_ _=>hp);clear hp hf hB)
   |((with_reducible refine aS 36 11 29 ?_);refine kP S rfl rfl HB.o qk rfl pB (bV _) λW S=>?_)
   |(go_at_call 207;refine(C2.o _ HB.o _).mono ?_;rintro e W ⟨N,rfl,hN,hb⟩;have HN:=ae hN;replace S:=S.below hb;clear hb hN)
   |((with_reducible refine aS 191 13 37 ?_);refine kP S rfl rfl HN.o rk rfl pB (fi _) λW S=>?_)
   |refine fN ?_)
       go_ret2;rw[HST.o];exact⟨_,rfl,dh.nil _ _,bm,S.x,S.fr⟩
      | some l1=>
       rw[hn] at htl;have C2:=ae λB (hB:B=ah 128 (aw sec)) W=>u2 sec hok B hB W;rw[hn] at C2;have e51:codeF 51 (some l1)=0:=rfl;rw[e51] at C2;simp only[mb] at C2;clear e51;obtain⟨m,hm⟩:=gq (min 8 (want - M.length));have hst:dj want (s',(M,0)) q=if yf l1 m=true then(s1,(M++(iT l1).take m,0)) else(s1,([],91)):=by unfold dj;rw[htl,hm];simp
       have HST:=ae hst;have HQ2:=ae hq2;have HNP:=ae (wW hok hn);have hm8:m<=8:=au;have hmi:min (8:Int) ((want:Int) - (M.length:Int))=(m:Int):=au;have HM:=ae hm;clear htl hn hst hq2 hm
       go_wp2_with (first
   |((with_reducible refine pP ?_);refine Md (RL.o.fr S.fr (.inr rfl) rfl) hlt (DW HAQ) hsub.o ?_)
   |((with_reducible refine aS 106 10 24 ?_);refine kP S rfl rfl HAQ.o bd rfl pB (aE _) λW S=>?_)
   |(go_at_call 110;refine(C1.o _ S.x).mono ?_;rintro e W ⟨B,rfl,hB,hp,hf⟩;have HB:=ae hB;replace S:=S.call hf (λD e=>e) fh (bu P D M0 s1) (λ_ _=>hp);clear hp hf hB)
   |((with_reducible refine aS 36 11 29 ?_);refine kP S rfl rfl HB.o qk rfl pB (bV _) λW S=>?_)
   |(go_at_call 207;refine(C2.o _ HB.o _).mono ?_;rintro e W ⟨N,rfl,hN,hb⟩;have HN:=ae hN;replace S:=S.below hb;clear hb hN)
   |((with_reducible refine aS 191 13 37 ?_);refine kP S rfl rfl HN.o rk rfl pB (fi _) λW S=>?_)
   |refine fN ?_)
       have HS2:=S2
       go_loopw [47] (λi wr=>∃j:Nat,j<=8/\i=.int .i64 j/\Hid ((∀r,r<j->(decide (l1 r≠hole)==decide (r<m))=true)/\St w (some D) [] [⟨_,191,24,bJ l1⟩,⟨_,36,128,aw sec⟩,⟨_,106,3,aN q⟩] [⟨106,3,.slice ua M.length uc,M.length,eo M⟩] (Ae P D M0 s1) wr)) (λi _=>8 - (intOf i).toNat)
       case atStart=>exact⟨0,au,rfl,ae ⟨λr h=>by omega,S⟩⟩
       case round=>
        clear S;obtain⟨j,hj,rfl,hS⟩:=hrel;by_cases hjl:j<8
        . obtain⟨r,hr⟩:=cM (l1 j);obtain⟨E,hE⟩:=gq (ah 3 (aN r));have HIY:=ae λW=>(show(Instr.index 191 (.agg N) (.int .i64 j)).run prog W=.ok (.agg E) W by rw[HN.o,hE,<-hr];exact u1 l1 j hjl W);have HE:=ae hE;clear hE;have hpre:=ae hS.o.1;have S:=hS.o.2;clear hS;obtain⟨bq,hbq⟩:=cM (decide (r=hole));have hne: ∀W,(binOp .neq 106 (.agg E) (.agg #[Value.int .i64 0,.int .u64 0,.int .u32 0])).run prog W=.ok (.bool !bq) W:=λW=>by
           have:=BZ r hole bq hbq W;rw[az HE.o] at this;exact this
          have hdec:Hid (decide (l1 j≠hole)= !bq):=ae (by rw[hr,<-hbq];simp);clear hr hbq;cases bq <;> by_cases hjm: (j:Int)< (m:Int)
          all_goals (
          have hdm:=ae (show decide (j<m)=decide ((j:Int)< (m:Int)) from by simp)
          go_wp2_with (first
   |((with_reducible refine s7 50 191 46 47 ?_);refine Dl rfl rfl HIY.o ?_)
   |((with_reducible refine aS 106 16 50 ?_);refine kP S rfl rfl HE.o bd rfl pB (aE _) λW S=>?_)
   |refine fN ?_)
          first
           |(go_ret2;rw[r9 S2.o HQ2.o (by rw[HST.o,QE hjl (by rw[hdec.o];by_cases h9:j<m <;> simp[h9] <;> omega)];rfl) nh];exact⟨_,rfl,dh.nil _ _,bm,S.x,S.fr⟩)
           |(go_roundw
             case rel=>
              refine⟨j+1,au,by go_num,ae ⟨λq hq=>?_,S.pop⟩⟩;rcases Ml.1 hq with h | h
              . exact hpre.o q h
              . rw[h,hdec.o];by_cases h9:j<m <;> simp[h9] <;> omega
             case measure=>simp[intOf];omega)
          )
        . obtain rfl:j=8:=au;have hyes:=NW hS.o.1;have S:=hS.o.2;have hst2:=HST.o;rw[bC hyes] at hst2;have HN2:=ae (pK S2.o HQ2.o |>.trans hst2);have htl: ((iT l1).take m).length=m:=by rw[pM,kH];omega
          have hmw:M.length+m<=want:=by have:=HM.o;omega
          clear hS hyes hst2
          go_wp2_with (first
   |((with_reducible refine ej 61 191 13 ?_);refine iV rfl 191 (.tmp 13) none (some (.tmp 60)) none rfl _ (QF _ m hm8 _) ?_)
   |((with_reducible refine bN 62 59 61 ?_);refine zL S 0 rfl (by':=24) rfl rfl (yg S.k0 (by rw[rO,htl]) hm8 BM (QG l1 hm8)) cN (jY _) JW BM ?_;clear S;intro v' W S))
          have HF:Hid (∃va vc,v'=.slice va (M.length+m) vc):=ae (aH S.o0);go_roundw
          case rel=>
           obtain⟨va,vc,rfl⟩:=HF.o;refine⟨k+1,M++(iT l1).take m,s1,va,vc,au,by go_num,by rw[kh,htl];exact hmw,by rw[kh,htl],ae ⟨HN2.o,λq hq=>?_,?_⟩⟩
           . rcases jn.1 hq with h | h
             . exact HMP.o q h
             . obtain⟨r,_,rfl⟩:=lY.1 (rD h);exact HNP.o r
           rw[kh,htl,dU];exact S.pop.pop.pop
          case measure=>exact uO
    . have hst:cT s l want=(s1,([],c1)):=by
       rw[bC hc] at htl;exact r9 S2.o hq2 (by unfold dj;rw[htl];simp[hc]) hc
      have HST:=ae hst;have g1: (c1 != 0)=true:=lh.2 hc;have HC:=ae hc;clear hst htl hc hq2
      go_wp2_with (first
   |((with_reducible refine pP ?_);refine Md (RL.o.fr S.fr (.inr rfl) rfl) hlt (DW HAQ) hsub.o ?_)
   |((with_reducible refine aS 106 10 24 ?_);refine kP S rfl rfl HAQ.o bd rfl pB (aE _) λW S=>?_)
   |(go_at_call 110;refine(C1.o _ S.x).mono ?_;rintro e W ⟨B,rfl,hB,hp,hf⟩;have HB:=ae hB;replace S:=S.call hf (λD e=>e) fh (bu P D M0 s1) (λ_ _=>hp);clear hp hf hB)
   |((with_reducible refine aS 36 11 29 ?_);refine kP S rfl rfl HB.o qk rfl pB (bV _) λW S=>?_)
   |refine fN ?_)
      go_ret2;rw[HST.o];exact⟨_,rfl,dh.nil _ _,bm,S.x,S.fr⟩
  . obtain rfl:k=l.length:=au;have hfin:=hS.o.1;rw[wh] at hfin;have HFIN:=ae (show cT s l want=(s',(M,0)) from hfin);have HMP:=ae hS.o.2.1;have S:=hS.o.2.2;clear hS hfin;go_wp2;go_ret2;rw[HFIN.o];exact⟨_,rfl,S.o0,HMP.o,S.x,S.fr⟩
def gy (a:Pl×(aK×Int)) (q:aq):Pl×(aK×Int):=
 if a.2.2≠0 then a else
 if(dW a.1 q).2.2≠0 then((dW a.1 q).1,([],(dW a.1 q).2.2)) else((dW a.1 q).1,(a.2.1++(dW a.1 q).2.1,0))
def nE (s:Pl) (l:List aq):Pl×(aK×Int):=l.foldl gy (s,([],0))
def bW (s:Pl) (l:List aq) (n:Nat):Pl×(aK×Int):=
 if(nE s l).2.2≠0 then((nE s l).1,([],(nE s l).2.2)) else
 if((nE s l).2.1.drop n).all (λc=>decide (c=0))=true then((nE s l).1,((nE s l).2.1.take n,0)) else((nE s l).1,([],91))
theorem IL (hc:c≠0)(q:aq):gy (s,([],c)) q=(s,([],c)):=by
 grind[gy]
theorem NX {M:aK}(hk: (l.take k).foldl gy (s,([],0))=(s1,(M,0)))(hq:l[k]? =some q)(hs:gy (s1,(M,0)) q=(s2,([],c)))(hc:c≠0):nE s l=(s2,([],c)):=
 zS (k:=k+1) ((pK hk hq).trans hs) (IL hc)
structure Bc (w:aD) (base:Nat) (v:bh) (l:aK):Prop where
 sl:ar w 5 1 v l.length (aQ l)
 new:0<l.length->∀b,v.ownBlock=some b->base<=b
 lt: ∀x∈l,x<256
theorem Bc.nil (w:aD)(base:Nat):Bc w base (.slice none 0 0) []:=⟨ar.nil _ _ _,λh=>absurd h (Al _),λ_ h=>absurd h kz⟩
theorem ar.cut {c:Nat}(h:ar w e z (.slice ao n c) n xs)(hi:i<=n):ar w e z (.slice ao i i) i (xs.take (i*z)):=by
 obtain⟨h1,ao',cap,h2,h3,h4,h5⟩:=h;simp only[mA] at h2;obtain⟨rfl,-,rfl⟩:=h2;refine⟨by simp_all,ao,i,rfl,eO _,au,λh=>?_⟩
 grind
theorem WO {a:Option Addr}{c n' c':Nat}(h: (Value.slice a n c).ownBlock=some b): (Value.slice a n' c').ownBlock=some b:=by cases a <;> exact h
theorem T' (h:zM P t z)(ao:Option Addr)(n c y:Nat)(h2:y<=c)(W:aD): (Instr.sliceAt t (.slice ao n c) none (some (.int .i64 y)) (some (.int .i64 y))).run P W=.ok (.slice ao y y) W:=by
 rw[rU h,run_slice_hm W t ao n c h.1 .i64 .i64 (y:Nat) (y:Nat) au au au,h.2]
 simp_all[sliced,Addr.add]
theorem tO (l m:aK):aQ (l++m)=aQ l++aQ m:=by grind[aQ]
theorem aad {s:aK}(h:ag w E 36 128 (aw s))(hs:fa s):ar w 36 1 (.slice (some ⟨E,0,none⟩) 128 128) 128 (aQ s):=by
 have h9:=(eX.sec h hs).1
 grind[ar,aQ]
theorem Lg (P D M0:Nat)(s:Pl)(l:List aq)(v:bh)(hll:l.length<=100000)(hl:cx l)(n:Nat)(hn:n<=l.length*128)(w:aD)(h:bH w P D M0 s)(R:fM w v l):
 Calls prog 194 #[.pointer (some ⟨P,0,none⟩),v,.int .i64 n] w λe w'=>∃r,e=.returned (.tuple #[r,.int .i64 (bW s l n).2.2])/\Bc w' w.heap.size r (bW s l n).2.1/\bH w' P D M0 (bW s l n).1/\Fr (some D) [] w w':=by
 obtain⟨ao,cap,rfl,hcap,hao⟩:=aR R;have RL:=ae R;have hao:=ae hao;have HQ:=ae hl;have S:=St.start w (some D) [] (bu P D M0 s) h;clear R hl h;have w1:IntKind.i64.wrap ((l.length:Int)*128)=((l.length*128:Nat):Int):=by rw[mT _ au];omega
 go_enter func194,ntmps194
 go_wp2_with ((with_reducible refine qm 18 22 ?_);refine Dp S (by':=1) (n:=l.length*128) mG rfl rfl au BM rfl rfl λg W S=>?_)
 go_loopw [21,8] (λi u wr=>∃k M s' ua uc,k<=l.length/\i=.int .i64 k/\M.length=k*128/\u=.slice ua (k*128) uc/\Hid ((l.take k).foldl gy (s,([],0))=(s',(M,0))/\(∀x∈M,x<256)/\St w (some D) [] [] [⟨5,1,.slice ua (k*128) uc,k*128,aQ M⟩] (Ae P D M0 s') wr)) (λi _ _=>l.length - (intOf i).toNat)
 case atStart=>exact⟨0,[],s,_,_,au,rfl,by simp,by rw[EY],ae ⟨rfl,λ_ h=>absurd h kz,by rw[EY];exact S⟩⟩
 case round=>
  clear S;obtain⟨k,M,s',ua,uc,hk,rfl,hM,rfl,hS⟩:=hrel;by_cases hlt:k<l.length
  . obtain⟨b,o,rfl⟩:=hao.o au;obtain⟨q,hq⟩:=cM (l[k]);have hq2:l[k]? =some q:=by rw[j4 hlt,hq]
    obtain⟨AQ,hAQ⟩:=gq (ah 3 (aN q));have hsub:=ae (fF l hlt (A:=AQ) (by rw[hq];exact hAQ));have hpq:bt q:=HQ.o q (hq ▸ tW _);have HAQ:=ae hAQ;have S2:=ae hS.o.1;have HMP:=ae hS.o.2.1;have S:=hS.o.2.2;have HML:=ae hM;have hok:=wU S.x.dev.ok q;clear hS hq hAQ hM;have C1:=ae λW h=>az HAQ.o ▸ tm P D M0 s' q hpq W h;have htl:gy (s',(M,0)) q=if(dW s' q).2.2≠0 then((dW s' q).1,([],(dW s' q).2.2)) else((dW s' q).1,(M++(dW s' q).2.1,0)):=by unfold gy;simp
    rcases hg:dW s' q with⟨s1,sec,c1⟩;rw[hg] at C1 hok htl;simp only at C1 hok htl;clear hg;by_cases hc:c1=0
    . subst hc;rw[bX fh] at htl;have HN2:=ae ((pK S2.o hq2).trans htl);have HOK:=ae hok;have HSL:=ae λW E (h:ag W E 36 128 (aw sec))=>aad h HOK.o;clear htl hq2 hok
      go_wp2_with (first
   |((with_reducible refine pP ?_);refine Md (RL.o.fr S.fr (.inr rfl) rfl) hlt (DW HAQ) hsub.o ?_)
   |((with_reducible refine aS 106 10 24 ?_);refine kP S rfl rfl HAQ.o bd rfl pB (aE _) λW S=>?_)
   |(go_at_call 110;refine(C1.o _ S.x).mono ?_;rintro e W ⟨B,rfl,hB,hp,hf⟩;have HB:=ae hB;replace S:=S.call hf (λD e=>e) fh (bu P D M0 s1) (λ_ _=>hp);clear hB)
   |((with_reducible refine aS 36 11 29 ?_);refine kP S rfl rfl HB.o qk rfl pB (bV _) λW S=>?_)
   |((with_reducible refine ej 35 36 11 ?_);refine iV rfl 36 (.tmp 11) none none none rfl _ (Tj _ _) ?_)
   |((with_reducible refine bN 36 34 35 ?_);refine zL S 0 rfl (by':=1) rfl rfl (HSL.o _ _ S.k0) mG (zy _) JW BM ?_;clear S;intro v' W S)
   |refine fN ?_)
      have HF:Hid (∃va vc,v'=.slice va (k*128+128) vc):=ae (aH S.o0);go_roundw
      case rel=>
       obtain⟨va,vc,rfl⟩:=HF.o;refine⟨k+1,M++sec,s1,va,vc,au,by go_num,by rw[kh,HML.o,HOK.o.1];omega,by rw[succ_mul],ae ⟨HN2.o,λx hx=>(jn.1 hx).elim (HMP.o x) (HOK.o.2 x),?_⟩⟩;rw[succ_mul,tO];exact S.pop.pop
      case measure=>exact uO
    . have hst:nE s l=(s1,([],c1)):=by
       rw[bC hc] at htl;exact NX S2.o hq2 htl hc
      have hst2:bW s l n=(s1,([],c1)):=by unfold bW;rw[hst];simp[hc]
      have HST:=ae hst2;have g1: (c1 != 0)=true:=lh.2 hc;have HC:=ae hc;clear hst htl hc hq2 hst2
      go_wp2_with (first
   |((with_reducible refine pP ?_);refine Md (RL.o.fr S.fr (.inr rfl) rfl) hlt (DW HAQ) hsub.o ?_)
   |((with_reducible refine aS 106 10 24 ?_);refine kP S rfl rfl HAQ.o bd rfl pB (aE _) λW S=>?_)
   |(go_at_call 110;refine(C1.o _ S.x).mono ?_;rintro e W ⟨B,rfl,hB,hp,hf⟩;have HB:=ae hB;replace S:=S.call hf (λD e=>e) fh (bu P D M0 s1) (λ_ _=>hp);clear hB)
   |((with_reducible refine aS 36 11 29 ?_);refine kP S rfl rfl HB.o qk rfl pB (bV _) λW S=>?_)
   |refine fN ?_)
      go_ret2;rw[HST.o];exact⟨_,rfl,Bc.nil _ _,S.x,S.fr⟩
  . obtain rfl:k=l.length:=au;have hfin:=hS.o.1;rw[wh] at hfin;have HFIN:=ae (show nE s l=(s',(M,0)) from hfin);have HMP:=ae hS.o.2.1;have S:=hS.o.2.2;have HML:=ae hM;have hlt2:bW s l n=if(M.drop n).all (λc=>decide (c=0))=true then(s',(M.take n,0)) else(s',([],91)):=by unfold bW;rw[HFIN.o];simp
    have HLT:=ae hlt2;clear hS hfin hlt2 hM;obtain⟨N,hN⟩:=cM (l.length*128);rw[hN] at hn HML S;rw[hN];have hN2: ((l.length:Nat):Int)*128=(N:Int):=au;obtain⟨da,HDA⟩:=BU (fD ua uc n 1);have hR9: ∀W,St w (some D) [] [] [⟨5,1,.slice ua N uc,N,aQ M⟩] (Ae P D M0 s') W->ar W 5 1 (.slice da (N - n) (uc - n)) (N - n) (aQ (M.drop n)):=λW S=>by
     have h9:=S.q0.vN hn;rw[wy,qt,<-HDA.o] at h9;exact h9
    have HR9:=ae hR9;have hda2:0<N - n->∃b o,da=s_ b o:=by
     obtain⟨_,_,he,_,h2⟩:=aR (hR9 _ S);simp only[mA] at he;rw[he.1];exact h2
    have HDA2:=ae hda2;have hZl: (M.drop n).length=N - n:=by rw[Ek,HML.o]
    clear hR9 hda2
    go_wp2_with ((with_reducible refine ej 40 22 38 ?_);refine qn nC rfl rfl hn ?_;rw[<-HDA.o])
    obtain⟨Z,hZ⟩:=cM (M.drop n);rw[hZ] at HLT HR9 hZl
    go_loopw [42] (λi wr=>∃j:Nat,j<=N - n/\i=.int .i64 j/\Hid ((∀r c,r<j->Z[r]? =some c->c=0)/\St w (some D) [] [] [⟨5,1,.slice ua N uc,N,aQ M⟩] (Ae P D M0 s') wr)) (λi _=>(N - n) - (intOf i).toNat)
    case atStart=>exact⟨0,au,rfl,ae ⟨λr c h=>by omega,S⟩⟩
    case round=>
     clear S;obtain⟨j,hj,rfl,hS⟩:=hrel;by_cases hjl:j<N - n
     . obtain⟨b,o,rfl⟩:=HDA2.o au;have hjZ:j<Z.length:=au;obtain⟨c,hc⟩: ∃c,Z[j]? =some c:=⟨_,j4 hjZ⟩;have hpre:=ae hS.o.1;have S:=hS.o.2;clear hS;have hcell:=(HR9.o _ S).cellAt au (show(aQ Z)[j]? =some (.int .u8 c) from by unfold aQ;rw[tY,hc];rfl);have HC:=ae hc;clear hc;have hjN: (j:Int)< ((N - n:Nat):Int):=au;by_cases hc0:c=0
       . have g: ((c:Nat):Int)=0:=au;subst hc0;go_wp2;go_roundw
         case rel=>
          refine⟨j+1,au,by go_num,ae ⟨λr c hr hc=>?_,S⟩⟩;rcases Ml.1 hr with h | h
          . exact hpre.o r c h hc
          . rw[h,HC.o] at hc;exact(El hc).symm
         case measure=>exact uO
       . have g: (((c:Nat):Int) != 0)=true:=by rw[lh];omega
         have hst:bW s l n=(s',([],91)):=by
          rw[HLT.o,bX];intro h9;have h8:=Ak.1 h9 c (nf HC.o);exact hc0 (by simpa using h8)
         have HST:=ae hst;clear hst hc0;go_wp2;go_ret2;rw[HST.o];exact⟨_,rfl,Bc.nil _ _,S.x,S.fr⟩
     . obtain rfl:j=N - n:=au;have hst:bW s l n=(s',(M.take n,0)):=by
        rw[HLT.o,bC];rw[Ak];intro c hc;obtain⟨i,hi,rfl⟩:=Jo.1 hc;simpa using hS.o.1 i Z[i] au (j4 hi)
       have HST:=ae hst;have S:=hS.o.2;clear hS hst;have hnc:n<=uc:=by
        obtain⟨_,_,he,hle,_⟩:=aR S.q0
        grind
       go_wp2_with ((with_reducible refine ej 52 22 49 ?_);refine iV rfl 22 (.tmp 49) none (some (.tmp 50)) (some (.tmp 51)) rfl _ (T' nC ua N uc n hnc _) ?_)
       go_ret2;rw[HST.o];refine⟨.slice ua n n,rfl,⟨?_,λ_ b hb=>?_,λx hx=>HMP.o x (rD hx)⟩,S.x,S.fr⟩
       . have h9:=S.q0.cut hn;rw[wy,od] at h9;rw[show(M.take n).length=n by rw[pM,HML.o];omega];exact h9
       . exact(S.o0.lt b (WO hb)).1
theorem Gc (f s:Nat): (jF f s)[0]? =some s:=by
 cases f<;>grind[jF]
theorem QH (f:Nat): ∀s,1<=s->s<=8 ^ f->(jF f s).getLast? =some 1:=by
 induction f with
 | zero=>
  intro s h1 h2;obtain rfl:s=1:=by(have:8 ^ 0=1:=rfl);omega
  rfl
 | succ f ih=>
  intro s h1 h2;unfold jF;split
  . next h=>
    have hp:8 ^ (f+1)=8*8 ^ f:=by rw[Nat.pow_succ,Nat.mul_comm]
    rw[getLast?_cons,ih ((s+7) / 8) au au];rfl
  . obtain rfl:s=1:=au;rfl
theorem QI (f:Nat): ∀s i x y,(jF f s)[i]? =some x->(jF f s)[i+1]? =some y->x<=8*y:=by
 induction f with
 | zero=>grind[jF]
 | succ f ih=>
  intro s i x y h1 h2;unfold jF at h1 h2;split at h1
  . next h=>
    rw[bC h] at h2
    grind[Gc]
  grind
theorem IM (h: (dj want a q).2.2=0):a.2.2=0/\(dj want a q).2.1.length=a.2.1.length+min 8 (want - a.2.1.length):=by
 unfold dj at h ⊢;by_cases h0:a.2.2≠0
 . grind
 . rw[bX h0] at h ⊢;by_cases h1: (aO a.1 q).2.2≠0
   . grind
   . rw[bX h1] at h ⊢;refine⟨au,?_⟩;split
     . grind[kH]
     grind
theorem J7 (want:Nat): ∀(l:List aq) (a:Pl×(List aq×Int)),(l.foldl (dj want) a).2.2=0->a.2.1.length<=want->a.2.2=0/\(l.foldl (dj want) a).2.1.length=min (a.2.1.length+8*l.length) want
 | [],a,h,hw=>⟨h,by simp;omega⟩
 | q::l,a,h,hw=>by
  rw[Hz] at h ⊢;by_cases hc: (dj want a q).2.2=0
  . obtain⟨h1,h2⟩:=IM hc;obtain⟨_,h4⟩:=J7 want l _ h (by rw[h2];omega);exact⟨h1,by rw[h4,h2,o8];omega⟩
  . rcases hr:dj want a q with⟨s,m,c⟩;rw[hr] at h hc
    simp_all[ye,dj]
theorem yU {s':Pl}(h:cT s l want=(s',(M,0))):M.length=min (8*l.length) want:=by
 have:=(J7 want l (s,([],0)) (by grind[cT]) (kf _)).2
 grind[cT]
def ec (a:Pl×(List aq×List aq×Int)) (want:Nat):Pl×(List aq×List aq×Int):=
 if a.2.2.2≠0 then a else
 if(cT a.1 a.2.1 want).2.2≠0 then((cT a.1 a.2.1 want).1,([],[],(cT a.1 a.2.1 want).2.2))
 else((cT a.1 a.2.1 want).1,((cT a.1 a.2.1 want).2.1,a.2.2.1++(cT a.1 a.2.1 want).2.1,0))
theorem IN (hc:c≠0)(n:Nat):ec (s,([],[],c)) n=(s,([],[],c)):=by
 grind[ec]
def lr (n:Int):aK:=(levels n).dropLast.reverse
def bQ (s:Pl) (root:aq) (n:Int):Pl×(aK×List aq×Int):=
 if levels n=[]∨root=hole then(s,([],[],121)) else
 let r:=(lr n).foldl ec (s,([root],[root],0))
 if r.2.2.2≠0 then(r.1,([],[],r.2.2.2)) else
 let t:=bW r.1 r.2.1 n.toNat
 if t.2.2≠0 then(t.1,([],[],t.2.2)) else(t.1,(t.2.1,r.2.2.1,0))
theorem Ua {n:Int}(hj:j< (lr n).length): (lr n)[j]? =(levels n)[(levels n).length - 2 - j]?:=by
 unfold lr at hj ⊢
 grind
theorem EO (n:Int): (lr n).length=(levels n).length - 1:=by grind[lr]
section
variable {a:Act}
end
theorem qY (P D M0:Nat)(s:Pl)(root:aq)(hr:bt root)(n:Int)(w:aD)(h:bH w P D M0 s):
 Calls prog 147 #[.pointer (some ⟨P,0,none⟩),iy root,.int .i64 n] w λe w'=>∃r q,e=.returned (.tuple #[r,q,.int .i64 (bQ s root n).2.2.2])/\Bc w' w.heap.size r (bQ s root n).2.1/\dh w' w.heap.size q (bQ s root n).2.2.1/\cx (bQ s root n).2.2.1/\bH w' P D M0 (bQ s root n).1/\Fr (some D) [] w w':=by
 obtain⟨A,hA⟩:=gq (ah 3 (aN root));rw[az hA];have HA:=ae hA;have C1:=ae λw=>F7 n w;have S:=St.start w (some D) [] (bu P D M0 s) h;clear h hA;obtain⟨sz,hsz⟩:=cM (levels n);rw[hsz] at C1;go_enter func147,ntmps147;by_cases h0:sz=[]
 . have hst:bQ s root n=(s,([],[],121)):=by unfold bQ;rw[bC (.inl (by rw[hsz];exact h0))]
   subst h0;have HST:=ae hst;clear hst hsz
   go_wp2_with (first|(go_at_call 192;refine(C1.o _).mono ?_;rintro e W ⟨r,rfl,ho,hb⟩;have HF:=ae (aH ho);have S1:=(S.cU hb ho rfl rfl).NG (ar.aV ((S.cU hb ho rfl rfl).bR (k:=0) rfl)) (λ_=>rfl) rfl rfl;clear S hb ho;have S:=S1;clear S1;obtain⟨ra,rc,rfl⟩:=HF.o)|refine ew λW S=>?_)
   go_ret3;rw[HST.o];exact⟨_,_,rfl,Bc.nil _ _,dh.nil _ _,bm,S.x.1,S.fr⟩
 have hn1:1<=n/\n<=65535:=by
  unfold levels at hsz;split at hsz
  . exact absurd hsz.symm h0
  . omega
 obtain⟨k,rfl⟩: ∃k:Nat,n=k:=⟨n.toNat,au⟩;obtain⟨s0,hs0⟩:=cM ((k+127) / 128);have hlv:sz=jF 10 s0:=by rw[<-hsz];unfold levels;rw[bX au,<-hs0];rfl
 have hhead:sz[0]? =some s0:=by rw[hlv];exact Gc _ _
 have hlast:sz.getLast? =some 1:=by rw[hlv];exact QH _ _ au au
 have hstep: ∀i x y,sz[i]? =some x->sz[i+1]? =some y->x<=8*y:=by rw[hlv];exact QI _ _
 have hle: ∀x∈sz,x<=512:=by rw[<-hsz];exact uF _
 have hsl:sz.length<=11:=by rw[<-hsz];exact r7 _
 have hsp:0<sz.length:=Hx.2 h0;have HSZ:=ae hsz;have HSTEP:=ae hstep;have HHEAD:=ae hhead;have HLE:=ae hle;have hlast2:sz[sz.length - 1]? =some 1:=by rw[<-hlast,getLast?_eq_getElem?]
 have HLAST:=ae hlast2;have H0:=ae h0;clear hsz hlv hhead hlast hstep hle h0 hlast2;obtain⟨bq,hbq⟩:=cM (decide (root=hole));have heq: ∀W,(binOp .eql 106 (.agg A) (.agg #[Value.int .i64 0,.int .u64 0,.int .u32 0])).run prog W=.ok (.bool bq) W:=λW=>by
  have:=zz root hole bq hbq W;rw[az HA.o] at this;exact this
 have g0: ((sz.length:Int)==0)=false:=by rw[k'];omega
 cases bq with
 | true=>
  have hst:bQ s root k=(s,([],[],121)):=by unfold bQ;rw[bC (.inr (lK hbq))]
  have HST:=ae hst;clear hst hbq
  go_wp2_with (first|(with_reducible refine jj 22 106 4 S 0 HA.o ?_)|(go_at_call 192;refine(C1.o _).mono ?_;rintro e W ⟨r,rfl,ho,hb⟩;have HF:=ae (aH ho);have S1:=(S.cU hb ho rfl rfl).NG (ar.aV ((S.cU hb ho rfl rfl).bR (k:=0) rfl)) (λ_=>rfl) rfl rfl;clear S hb ho;have S:=S1;clear S1;obtain⟨ra,rc,rfl⟩:=HF.o)|((with_reducible refine tl 23 106 ?_);refine cV cm ?_;refine ku mi ?_)|refine ew λW S=>?_)
  go_ret3;rw[HST.o];exact⟨_,_,rfl,Bc.nil _ _,dh.nil _ _,bm,S.x.1,S.fr⟩
 | false=>
  have hne:root≠hole:=wx hbq;have hst:bQ s root k=(let r:=(lr k).foldl ec (s,([root],[root],0));if r.2.2.2≠0 then(r.1,([],[],r.2.2.2)) else let t:=bW r.1 r.2.1 k;if t.2.2≠0 then(t.1,([],[],t.2.2)) else(t.1,(t.2.1,r.2.2.1,0))):=by
   unfold bQ;rw[HSZ.o,bX (by intro h;rcases h with h | h;exact H0.o h;exact hne h)];rfl
  have HST:=ae hst;clear hst hbq hne
  go_wp2_with (first|(with_reducible first|refine jj 22 106 4 S 0 HA.o ?_)|(go_at_call 192;refine(C1.o _).mono ?_;rintro e W ⟨r,rfl,ho,hb⟩;have HF:=ae (aH ho);have S1:=(S.cU hb ho rfl rfl).NG (ar.aV ((S.cU hb ho rfl rfl).bR (k:=0) rfl)) (λ_=>rfl) rfl rfl;clear S hb ho;have S:=S1;clear S1;obtain⟨ra,rc,rfl⟩:=HF.o)|((with_reducible refine tl 23 106 ?_);refine cV cm ?_;refine ku mi ?_)|refine fN ?_|refine ew λW S=>?_)
  have S2:=(S.JU rfl).JU rfl;have S3:=S2.NG (ar.aV (S2.bR (k:=0) rfl)) (λ_=>rfl) rfl rfl;clear S S2;rw[show(ah 3 (aN root)).toList=eo [root] from(kG root).symm] at S3
  go_loopw [12,10,11] (λi u v wr=>∃j s' lv al la lc aa ac,j<=sz.length - 1/\i=.int .i64 ((sz.length:Int) - 2 - (j:Nat))/\u=.slice la lv.length lc/\v=.slice aa al.length ac/\Hid (((lr k).take j).foldl ec (s,([root],[root],0))=(s',(lv,al,0))/\sz[sz.length - 1 - j]? =some lv.length/\cx lv/\cx al/\al.length<=1+j*512/\
   St w (some D) [] [⟨w.heap.size,106,3,aN root⟩] [⟨106,3,.slice aa al.length ac,al.length,eo al⟩] (λB w=>(Ae P D M0 s' B w/\qC 3 1 (.slice ra sz.length rc) sz.length (nD sz) B w)/\qC 106 3 (.slice la lv.length lc) lv.length (eo lv) B w) wr)) (λi _ _ _=>(intOf i+1).toNat)
  case atStart=>exact⟨0,s,[root],[root],_,_,_,_,kf _,by simp,rfl,rfl,ae ⟨rfl,HLAST.o,λq hq=>by rw[gz.1 hq];exact hr,λq hq=>by rw[gz.1 hq];exact hr,eO _,S3⟩⟩
  case round=>
   clear S3;obtain⟨j,s',lv,al,la,lc,aa,ac,hj,rfl,rfl,rfl,hS⟩:=hrel;by_cases hlt:j<sz.length - 1
   . have hyl:sz.length - 2 - j<sz.length:=au;obtain⟨y,hy⟩: ∃y,sz[sz.length - 2 - j]? =some y:=⟨_,j4 hyl⟩;have hy8:y<=8*lv.length:=HSTEP.o (sz.length - 2 - j) y lv.length hy (by rw[show sz.length - 2 - j+1=sz.length - 1 - j by omega];exact hS.o.2.1);have hy5:y<=512:=HLE.o y (nf hy);have hl5:lv.length<=512:=HLE.o _ (nf hS.o.2.1);have hF:=ae hS.o.1;have hPL:=ae hS.o.2.2.1;have hPA:=ae hS.o.2.2.2.1;have hal:=hS.o.2.2.2.2.1;have S:=hS.o.2.2.2.2.2;clear hS;obtain⟨sb,so,hra⟩: ∃b o,ra=s_ b o:=by
      obtain⟨_,_,he,_,h2⟩:=aR S.x.1.2.1
      grind
     subst hra;have hix: ((sz.length:Int) - 2 - (j:Nat))=((sz.length - 2 - j:Nat):Int):=au;have hcell:=ae λW (h:qC 3 1 (.slice (s_ sb so) sz.length rc) sz.length (nD sz) [] W)=>h.1.cellAt hsp (show(nD sz)[sz.length - 2 - j]? =some (.int .i64 y) from by unfold nD;rw[tY,hy];rfl);have C2:=ae λW h R=>IK P D M0 s' lv (.slice la lv.length lc) au hPL.o y au W h R;have hst:ec (s',(lv,al,0)) y=if(cT s' lv y).2.2≠0 then((cT s' lv y).1,([],[],(cT s' lv y).2.2)) else((cT s' lv y).1,((cT s' lv y).2.1,al++(cT s' lv y).2.1,0)):=by unfold ec;simp
     have hdy: (lr k)[j]? =some y:=by rw[Ua (by rw[EO,HSZ.o];omega),HSZ.o];exact hy
     rcases hg:cT s' lv y with⟨s1,m,c⟩;rw[hg] at C2 hst;simp only at C2 hst;have HG:=ae hg;have HDY:=ae hdy;clear hg hdy;obtain⟨ix,hixn⟩:=cM (sz.length - 2 - j);rw[hixn] at hix hcell hyl;rw[hix];have hyi: (ix:Int)< (sz.length:Int):=au;by_cases hc:c=0
     . subst hc;rw[bX fh] at hst;have HN2:=ae ((pK hF.o HDY.o).trans hst);have hml:m.length=y:=by rw[yU HG.o];omega
       have HML:=ae hml;have hm5:m.length<=512:=au;clear hst hml
       go_wp2_with (first
   |((with_reducible refine pP ?_);refine BN (hcell.o _ ⟨S.x.1.2.1,λ_ _ _ h=>absurd h kz⟩) ?_)
   |(go_at_call 193;refine(C2.o _ S.x.1.1 S.x.2.1).mono ?_;rintro e W ⟨r,rfl,ho,hpl,hp,hf⟩;have HF:=ae (aH ho);have HPL:=ae hpl;have S1:=S.pO hf (λD e=>e) fh ((bu P D M0 s1).still (cz 3 1 (.slice (s_ sb so) sz.length rc) sz.length (nD sz) rfl rfl)) (λB h=>⟨hp,V9 h.1.2 hf rfl rfl⟩) ho rfl rfl;clear S ho hp hf hpl;have S:=S1.NG (ar.aV (S1.bR (k:=0) rfl)) (λ_=>rfl) rfl rfl;clear S1;obtain⟨ma,mc,rfl⟩:=HF.o)
   |((with_reducible refine bN 52 50 51 ?_);refine zL S 0 rfl (by':=24) rfl rfl S.x.2.1 cN (jY _) JW BM ?_;clear S;intro v' W S))
       have HF2:Hid (∃va vc,v'=.slice va (al.length+m.length) vc):=ae (aH S.o0);go_roundw
       case rel=>
        obtain⟨va,vc,rfl⟩:=HF2.o;refine⟨j+1,s1,m,al++m,ma,mc,va,vc,au,iS (Value.int .i64) au,rfl,by rw[kh],ae ⟨HN2.o,?_,HPL.o,λq hq=>(jn.1 hq).elim (hPA.o q) (HPL.o q),by rw[kh];omega,?_⟩⟩
        . rw[show sz.length - 1 - (j+1)=sz.length - 2 - j by omega,hy,HML.o]
        . rw[kh,dU];exact S
       case measure=>simp[intOf]
     . have g1: (c != 0)=true:=lh.2 hc;rw[bC hc] at hst;have hst2:bQ s root k=(s1,([],[],c)):=by
        rw[HST.o];have h9: (lr k).foldl ec (s,([root],[root],0))=(s1,([],[],c)):=zS (k:=j+1) ((pK hF.o HDY.o).trans hst) (IN hc);rw[h9];simp[hc]
       have HST2:=ae hst2;have HC:=ae hc;clear hst hst2 hc
       go_wp2_with (first
   |((with_reducible refine pP ?_);refine BN (hcell.o _ ⟨S.x.1.2.1,λ_ _ _ h=>absurd h kz⟩) ?_)
   |(go_at_call 193;refine(C2.o _ S.x.1.1 S.x.2.1).mono ?_;rintro e W ⟨r,rfl,ho,hpl,hp,hf⟩;replace S:=S.call hf (λD e=>e) fh (bu P D M0 s1) (λ_ _=>hp);clear hp hf ho hpl))
       go_ret3;rw[HST2.o];exact⟨_,_,rfl,Bc.nil _ _,dh.nil _ _,bm,S.x,S.fr⟩
   . obtain rfl:j=sz.length - 1:=au;have hF:=hS.o.1;rw[tX (by rw[EO,HSZ.o];omega)] at hF;have hl0:lv.length=s0:=by
      have h1:=hS.o.2.1;rw[show sz.length - 1 - (sz.length - 1)=0 by omega,HHEAD.o] at h1;exact(El h1).symm
     have hPA:=ae hS.o.2.2.2.1;have hal:=hS.o.2.2.2.2.1;have hix: ((sz.length:Int) - 2 - ((sz.length - 1:Nat):Int))= -1:=au;have C3:=ae λW h R=>Lg P D M0 s' lv (.slice la lv.length lc) au hS.o.2.2.1 k au W h R;have S:=hS.o.2.2.2.2.2;have HL0:=ae hl0;clear hl0;have hres:bQ s root k=if(bW s' lv k).2.2≠0 then((bW s' lv k).1,([],[],(bW s' lv k).2.2)) else((bW s' lv k).1,((bW s' lv k).2.1,al,0)):=by
      rw[HST.o,hF];simp
     rcases hg:bW s' lv k with⟨s1,tx,c⟩;rw[hg] at C3 hres;simp only at C3 hres;clear hS hF hg;rw[hix];by_cases hc:c=0
     . subst hc;rw[bX fh] at hres;have HRES:=ae hres;clear hres
       go_wp2_with (go_at_call 194;refine(C3.o _ S.x.1.1 S.x.2.1).mono ?_;rintro e W ⟨r,rfl,ho,hp,hf⟩;have HO:=ae (And.intro ho.sl (And.intro (λ(h:0<tx.length) b hb=>kL S.fr.size (ho.new h b hb)) ho.lt));replace S:=S.call hf (λD e=>e) fh (bu P D M0 s1) (λ_ _=>hp);clear hp hf ho)
       go_ret3;rw[HRES.o];exact⟨_,_,rfl,⟨HO.o.1,HO.o.2.1,HO.o.2.2⟩,S.o0,hPA.o,S.x,S.fr⟩
     . have g1: (c != 0)=true:=lh.2 hc;rw[bC hc] at hres;have HRES:=ae hres;have HC:=ae hc;clear hres hc
       go_wp2_with (go_at_call 194;refine(C3.o _ S.x.1.1 S.x.2.1).mono ?_;rintro e W ⟨r,rfl,ho,hp,hf⟩;replace S:=S.call hf (λD e=>e) fh (bu P D M0 s1) (λ_ _=>hp);clear hp hf ho)
       go_ret3;rw[HRES.o];exact⟨_,_,rfl,Bc.nil _ _,dh.nil _ _,bm,S.x,S.fr⟩
def fI (s:Pl) (hb:aK):Pl×(aK×List aq×Int):=
 match ks (hb.take 16) with
 | none=>(s,([],[],51))
 | some root=>bQ s root ((et (hb.drop 16):Nat):Int)
theorem abm {bs:aK}(h:bs.length=4):kx [4] bs=some [et bs]:=by
 unfold kx;rw[bC ⟨by decide,by rw[h];rfl⟩];have:getAll [4] bs=[et (bs.take 4)]:=rfl
 grind
theorem aae {bs:aK}(h:bs.length=4)(hb: ∀x∈bs,x<256):et bs<4294967296:=by
 grind[pJ]
theorem NY (h:w.ownsRow base e z v (n+1) xs): ∃g c,v=.slice (some ⟨g,0,none⟩) (n+1) c:=by
 grind[ownsRow_succ]
theorem DE (P D M0:Nat)(s:Pl)(hb:aK)(hl:hb.length=20)(hlt: ∀x∈hb,x<256)(v:bh)(w:aD)(h:bH w P D M0 s)(R:ar w 5 1 v 20 (aQ hb)):
 Calls prog 149 #[.pointer (some ⟨P,0,none⟩),v] w λe w'=>∃r q,e=.returned (.tuple #[r,q,.int .i64 (fI s hb).2.2.2])/\Bc w' w.heap.size r (fI s hb).2.1/\dh w' w.heap.size q (fI s hb).2.2.1/\cx (fI s hb).2.2.1/\bH w' P D M0 (fI s hb).1/\Fr (some D) [] w w':=by
 obtain⟨ao,cap,rfl,hcap,hao⟩:=aR R;have RL:=ae R;have S:=St.start w (some D) [] (bu P D M0 s) h;have C1:=ae λW u hu hc=>qg u (hb.take 16) W hu hc;have C2:=ae λv u W hv hu hc=>yC v u [4] (hb.drop 16) nh W hv hu hc;have h16: (hb.drop 16).length=4:=by rw[Ek,hl]
 have h4:=aae h16 (λx hx=>hlt x (vF hx));rw[abm h16] at C2;have e21:codeF 21 (some [et (hb.drop 16)])=0:=rfl;rw[e21] at C2;simp only[mb] at C2;have HT:=ae (show ar w 5 1 (.slice ao 16 cap) 16 (aQ (hb.take 16)) from by have h9:=ar.take R (i:=16) au;rwa [wy,od] at h9);obtain⟨da,HDA⟩:=BU (fD ao cap 16 1);have HDR:=ae (show ar w 5 1 (.slice da 4 (cap - 16)) 4 (aQ (hb.drop 16)) from by have h9:=ar.vN R (i:=16) au;rw[wy,qt,<-HDA.o] at h9;exact h9);have HLT:=ae hlt;have HHL:=ae hl;have HW1:=ae (show ∀y∈aW [4],(Lit.int .i64 y).wf=true by decide);obtain⟨nn,hnn⟩:=cM (et (hb.drop 16));rw[hnn] at C2 h4;have hres:fI s hb=match ks (hb.take 16) with | none=>(s,([],[],51)) | some root=>bQ s root ((nn:Nat):Int):=by unfold fI;rw[hnn]
 have hparts: ∀q,ks (hb.take 16)=some q->bt q:=λq hq=>ql (λx hx=>hlt x (rD hx)) hq;clear R hlt hl h h16 e21 hnn hao;go_enter func149,ntmps149;cases hp:ks (hb.take 16) with
 | none=>
  rw[hp] at C1 hres;have e51:codeF 51 (none:Option aq)=51:=rfl;rw[e51] at C1;obtain⟨A,hA⟩:=gq (ah 3 (aN ((none:Option aq).getD hole)));rw[az hA] at C1;have HA:=ae hA;have HRES:=ae hres;clear hres e51 hp hparts hA
  go_wp2_with (first|((with_reducible refine ej 12 22 11 ?_);refine Nr nC rfl rfl (y:=16) au ?_)|(go_at_call 195;refine je S (C1.o _ _ (HT.o.fr S.fr (.inr rfl) rfl |>.iC (λx hx=>HLT.o x (rD hx))) ⟨_,_,_,rfl,au⟩) λW S=>?_)|((with_reducible refine aS 106 7 14 ?_);refine kP S rfl rfl HA.o bd rfl pB (aE _) λW S=>?_))
  go_ret3;rw[HRES.o];exact⟨_,_,rfl,Bc.nil _ _,dh.nil _ _,bm,S.x,S.fr⟩
 | some root=>
  rw[hp] at C1 hres;have e51:codeF 51 (some root)=0:=rfl;rw[e51] at C1;simp only[mb] at C1 hres;obtain⟨A,hA⟩:=gq (ah 3 (aN root));rw[az hA] at C1;have C3:=ae λW h=>qY P D M0 s root (hparts root hp) ((nn:Nat):Int) W h;rw[az hA,<-hres] at C3;have HA:=ae hA;have hsub:IntKind.i64.wrap ((20:Int) - 16)=4:=by decide
  have hcv:IntKind.i64.wrap ((nn:Nat):Int)=((nn:Nat):Int):=mT _ au;clear hres e51 hp hparts hA
  go_wp2_with (first|((with_reducible refine ej 12 22 11 ?_);refine Nr nC rfl rfl (y:=16) au ?_)|(go_at_call 195;refine je S (C1.o _ _ (HT.o.fr S.fr (.inr rfl) rfl |>.iC (λx hx=>HLT.o x (rD hx))) ⟨_,_,_,rfl,au⟩) λW S=>?_)|((with_reducible refine aS 106 7 14 ?_);refine kP S rfl rfl HA.o bd rfl pB (aE _) λW S=>?_)|((with_reducible refine j6 23 81 1 ?_);refine eY S .i64 (aW [4]) um lH au au rfl rfl rfl λW S=>?_)|((with_reducible refine ej 25 22 24 ?_);refine qn nC rfl rfl (y:=16) au ?_;rw[<-HDA.o])|(go_at_call 29;refine(C2.o _ _ _ (br.row S.k0 rfl (show(1:Nat)<=_ by omega) HW1.o) (HDR.o.fr S.fr (.inr rfl) rfl |>.iC (λx hx=>HLT.o x (vF hx))) ⟨_,_,_,rfl,au⟩).mono ?_;rintro e W ⟨r,rfl,ho,hb⟩;obtain⟨ng,nc,rfl⟩:=NY ho;replace S:=S.cU hb ho rfl rfl;clear hb))
  replace S:St w (some D) [] _ [⟨82,1,.slice (s_ ng 0) 1 nc,1,Eb [nn]⟩] _ _:=S;refine bL S cm λW S=>?_;refine bp 0 32 _ ?_;refine bp 1 33 (.agg A) ?_;refine bp 2 34 _ ?_;refine bp 3 35 (bZ ng 0) ?_;refine gY 4 36 (.int .u64 nn) rfl (bP (λw h=>by obtain⟨_,S⟩:=h;have h9:=S.q0.cellAt (j:=0) (u:=.int .u64 nn) au rfl;exact h9) rfl bF) ?_;refine bp 5 37 (.int .i64 nn) ?_;refine mO 6 λK hK=>?_
  go_wp2_with fail
  refine(C3.o _ S.x).mono ?_;rintro e W ⟨r,q,rfl,ho,hq,hpl,hp,hf⟩;have HO:=ae (And.intro ho.sl (And.intro (λh b hb=>kL S.fr.size (ho.new h b hb)) ho.lt));have HQ:=ae (And.intro (oD hq S.fr.size) hpl);replace S:=S.call hf (λD e=>e) fh (bu P D M0 _) (λ_ _=>hp);clear hp hq hpl;refine gM hK ?_;refine bp 7 39 (r) ?_;refine bp 8 40 (q) ?_;refine bp 9 41 (.int .i64 (fI s hb).2.2.2) ?_;refine bp 10 4 _ ?_;refine bp 11 5 _ ?_;refine bp 12 6 _ ?_;refine uy ?_;go_wp2;go_ret3;exact⟨_,_,rfl,⟨HO.o.1,HO.o.2.1,HO.o.2.2⟩,HQ.o.1,HQ.o.2,S.x,S.fr⟩
attribute [local go_sem] Oper.semAt_some
def l6 (bs:aK) (k:Nat):aK:=(bs.drop (k*128)).take 128
def kC (bI:aK) (a:Pl×(List aq×Int)) (part:aK):Pl×(List aq×Int):=
 if a.2.2≠0 then a else
 if(dq a.1 (bI.getD a.2.1.length 0:Nat) part).2.2≠0 then((dq a.1 (bI.getD a.2.1.length 0:Nat) part).1,([],(dq a.1 (bI.getD a.2.1.length 0:Nat) part).2.2))
 else((dq a.1 (bI.getD a.2.1.length 0:Nat) part).1,(a.2.1++[(dq a.1 (bI.getD a.2.1.length 0:Nat) part).2.1],0))
def dt (s:Pl) (bs bI:aK):Pl×(List aq×Int):=((finRange (cw bs.length 128)).map λk=>l6 bs k.val).foldl (kC bI) (s,([],0))
theorem Lh (hc:c≠0)(q:aK):kC bI (s,([],c)) q=(s,([],c)):=by
 grind[kC]
theorem ar.part {c:Nat}(h:ar w e z (.slice (some ⟨b,o,none⟩) n c) n xs)(hi:i+y<=n):ar w e z (.slice (some ⟨b,o+i*z,none⟩) y y) y ((xs.drop (i*z)).take (y*z)):=by
 obtain⟨h1,ao',cap,h2,h3,h4,h5⟩:=h;simp only[mA] at h2;obtain⟨rfl,-,rfl⟩:=h2;have hm: (i+y)*z<=n*z:=Sy _ hi;have ha: (i+y)*z=i*z+y*z:=Nat.add_mul _ _ _;refine⟨by grind,_,y,rfl,eO _,au,λhy=>?_⟩
 grind
theorem WQ {c:Nat}{bs:aK}(h:eX w 5 (.slice (some ⟨b,o,none⟩) bs.length c) bs)(hk:k<cw bs.length 128):eX w 5 (oe b o 1 bs.length 128 k) (l6 bs k):=by
 have hk2:=(mJ (m:=bs.length) (n:=128) au).1 hk;have hl: (l6 bs k).length=min 128 (bs.length - k*128):=by grind[l6]
 refine⟨?_,λx hx=>h.2 x (vF (rD hx))⟩;have h9:=h.1.part (i:=k*128) (y:=min 128 (bs.length - k*128)) au;unfold oe;rw[hl];rw[wy,<-map_drop,<-map_take] at h9;have e:l6 bs k=(bs.drop (k*128)).take (min 128 (bs.length - k*128)*1):=by
  simp_all[l6]
 grind
theorem oh (s:Pl) (i:Int) (b:aK): (dq s i b).1.dv.ops<=s.dv.ops+1:=by
 unfold dq;split
 . grind
 . split
   . exact s6 _ _ _
   grind
theorem tP (h:ll s.ay)(i:Int)(b:aK)(hb: ∀x∈b,x<256):bt (dq s i b).2.1:=by
 unfold dq;split
 . exact bD
 . next hl=>
   split
   . next hi=>
     unfold jG;simp only;split
     . exact⟨by grind,h,M9 _ (ED au hb).2⟩
     . exact bD
   . exact bD
theorem IP {bs:aK}{p:List (Fin (cw bs.length 128))}(hp:p<+:finRange (cw bs.length 128))(h: (p.map λk=>l6 bs k.val).foldl (kC bI) (s,([],0))=(s1,([],c)))(hc:c≠0):dt s bs bI=(s1,([],c)):=by
 obtain⟨r,hr⟩:=hp;unfold dt;rw[<-hr,pt,Km,h,ye (Lh hc)]
theorem WS:fZ prog 68:=⟨⟨_,underlying68,rfl⟩,cm⟩
theorem qR:fZ prog 27:=⟨⟨_,underlying27,rfl⟩,cm⟩
instance in82e9c :qD 27:=⟨qR⟩
theorem WT:fZ prog 81:=⟨⟨_,um,rfl⟩,cm⟩
structure WU where
 a:Option Addr
 c:Nat
 s:Pl
 oq:List aq
structure YL where
 y:WU
 code:Int
theorem NZ (P D M0:Nat)(s:Pl)(hops:s.dv.ops<=999000000)(bs:aK)(hbl:bs.length<=100000)(v:bh)(bI:aK)(av:bh)(hal:cw bs.length 128<=bI.length)(ham:bI.length<=100000)(hat: ∀x∈bI,x<=1000000)(w:aD)(h:bH w P D M0 s)(R:eX w 5 v bs)(RA:ar w 3 1 av bI.length (nD bI)):
 CallsIn Fence.wide 5 prog 279 #[.pointer (some ⟨P,0,none⟩),v,av] w λe w'=>∃r,e=.returned (.tuple #[r,.int .i64 (dt s bs bI).2.2])/\dh w' w.heap.size r (dt s bs bI).2.1/\cx (dt s bs bI).2.1/\bH w' P D M0 (dt s bs bI).1/\Fr (some D) [] w w':=by
 obtain⟨bo,bcap,rfl,hbcap,hbo⟩:=aR R.1;obtain⟨aa,acap,rfl,hacap,haa⟩:=aR RA;have HR:=ae R;have HRA:=ae RA;have S:=St.start w (some D) [] (bu P D M0 s) h;have hN:cw bs.length 128<=100000:=au;clear R RA h;refine callsIn_of_wp_marks func279 rfl kO ?_ rfl;simp only[ntmps279,Ji,o8,we,reduceAdd,reduceSub,Jj,Jk,Jl,Jm,wv,Aj]
 gi_upto_region 0 with fail
 refine eh pB cm BO ?_
 go_wp2_with (first|((with_reducible refine gT 3 68 0 ?_);refine kN S (v:=bZ P 0) rfl rfl rfl λW3 S=>?_)|((with_reducible refine gT 5 81 2 ?_);refine kN S (v:=.slice aa bI.length acap) rfl rfl rfl λW5 S=>?_)|((with_reducible refine dH 6 107 ?_);refine kI S zeroValue107 rfl rfl λW6 S=>?_)|((with_reducible refine dH 7 27 ?_);refine kI S zeroValue27 rfl rfl λW7 S=>?_))
 gi_upto_region 1 with fail
 refine eh pB cm BO ?_
 go_wp2_with (refine ew λW S=>?_)
 gi_upto_region 2 with fail
 refine eh pB cm BO ?_
 go_wp2_with (go_at_call 288;refine(QA bo bs.length bcap _).mono ?_;rintro e W2 ⟨rfl,hW⟩;have HB:=ae (xq hW);clear hW)
 gi_wp2
 replace S:St w (some D) [] [⟨W7.heap.size,107,1,λ_=>.slice none 0 0⟩,⟨W6.heap.size,27,1,λ_=>.int .i64 0⟩,⟨W5.heap.size,107,1,λ_=>.slice none 0 0⟩,⟨W3.heap.size,81,1,λ_=>.slice aa bI.length acap⟩,⟨w.heap.size,68,1,λ_=>bZ P 0⟩] [] (Ae P D M0 s) W:=S;obtain⟨hb,hbl1,hbi,htl,hti,hsz⟩:=HB.o;obtain⟨nb,hnb⟩:=cM W.heap.size;rw[hnb] at hbl1 hbi htl hti ⊢;have hbs: ∀k∈ [nb,nb+1],(W.heap.size<=k∨k<w.heap.size)/\∃t,du W2 k=some t/\fk t=false/\df t=false:=by
  intro k hk;simp only[iI,kz,tZ] at hk;rcases hk with rfl | rfl
  . exact⟨.inl au,_,htl,rfl,rfl⟩
  . exact⟨.inl au,_,hti,rfl,rfl⟩
 replace S:=(S.yK 106 3 rfl rfl).Nz hb hbs;have hav:=S.x.2;have hw2:w.heap.size<=W2.heap.size:=S.fr.size;have hstab: ∀s',gX (some D) (λB w=>Ae P D M0 s' B w/\Mh [nb,nb+1] B w):=λs'=>(bu P D M0 s').still (fm _);have hobj: ∀s',lW (λB w=>Ae P D M0 s' B w/\Mh [nb,nb+1] B w):=λs'=>(lW.pl P D M0 s').and (lW.av _);obtain⟨b0,o0,hbo2⟩: ∃b o,0<bs.length->bo=s_ b o:=by
  grind
 refine wpIn_rangeFunc_ownF rfl au (gf:=292) (lb:=#[bZ nb 0,bZ (nb+1) 0]) rfl kO (enters_of func292 cm rfl)
  (La 4 nb (nb+1) bs.length bcap bo b0 o0 hbo2 hbcap au W2 hbl1 hbi) iB.trans (iB.book λk hk=>let⟨_,h1,_⟩:=(hav k hk).2;c7 h1) (iU _ _) (λ_=>rfl)
  (λpre W'=>∃y:WU,Hid ((pre.map λk=>l6 bs k.val).foldl (kC bI) (s,([],0))=(y.s,(y.oq,0))/\y.oq.length=pre.length/\y.s.dv.ops<=s.dv.ops+pre.length/\cx y.oq)/\St w (some D) [] [⟨W7.heap.size,107,1,λ_=>.slice y.a y.oq.length y.c⟩,⟨W6.heap.size,27,1,λ_=>.int .i64 0⟩,⟨W5.heap.size,107,1,λ_=>.slice none 0 0⟩,⟨W3.heap.size,81,1,λ_=>.slice aa bI.length acap⟩,⟨w.heap.size,68,1,λ_=>bZ P 0⟩] [⟨106,3,.slice y.a y.oq.length y.c,y.oq.length,eo y.oq⟩] (λB w=>Ae P D M0 y.s B w/\Mh [nb,nb+1] B w) W')
  (λc pre W'=>∃y:YL,Hid (c=.ret/\(pre.map λk=>l6 bs k.val).foldl (kC bI) (s,([],0))=(y.y.s,([],y.code))/\y.code≠0)/\St w (some D) [] [⟨W7.heap.size,107,1,λ_=>.slice y.y.a y.y.oq.length y.y.c⟩,⟨W6.heap.size,27,1,λ_=>.int .i64 y.code⟩,⟨W5.heap.size,107,1,λ_=>.slice none 0 0⟩,⟨W3.heap.size,81,1,λ_=>.slice aa bI.length acap⟩,⟨w.heap.size,68,1,λ_=>bZ P 0⟩] [] (λB w=>Ae P D M0 y.y.s B w/\Mh [nb,nb+1] B w) W')
  (mj hw2 _ _ _ _ λ_ (y:WU)=>hobj y.s) (λc=>mj hw2 _ _ _ _ λ_ (y:YL)=>hobj y.y.s)
  ⟨⟨none,0,s,[]⟩,ae ⟨rfl,rfl,eO _,bm⟩,S⟩ ?a1 ?assign ?body ?done ?stop
 case assign=>
  intro lp z W' K hK
  gi_wp2
  exact hK
 case body=>
  clear S;rintro lp pre z W0 ⟨⟨ya,yc,s',out⟩,hJ,S⟩ hpre;simp only at hJ S;obtain⟨hf,hol,hop,hpl⟩:=hJ.o;replace S:=S.bS;obtain⟨ab,ao,rfl⟩:=haa au;have hzm:=(mJ (m:=bs.length) (n:=128) au).1 z.isLt;obtain rfl:=hbo2 au;obtain⟨ai,hai⟩: ∃ai,bI[out.length]? =some ai:=⟨_,j4 au⟩;have hag:bI.getD out.length 0=ai:=by grind
  have hai2:=hat ai (nf hai);have hcell:=ae λW (h:Fr (some D) [] w W)=>(HRA.o.fr h (.inr rfl) rfl).cellAt (show 0<bI.length by omega) (show(nD bI)[out.length]? =some (.int .i64 ai) from by unfold nD;rw[tY,hai];rfl);obtain⟨pv,hpv⟩:=cM (oe b0 o0 1 bs.length 128 z.val);have hpsl:=ae λW (h:Fr (some D) [] w W)=>(show eX W 5 pv (l6 bs z.val) from by rw[<-hpv];exact WQ (HR.o.fr h (.inr rfl) rfl) z.isLt);have hstp:kC bI (s',(out,0)) (l6 bs z.val)=if(dq s' (ai:Nat) (l6 bs z.val)).2.2≠0 then((dq s' (ai:Nat) (l6 bs z.val)).1,([],(dq s' (ai:Nat) (l6 bs z.val)).2.2)) else((dq s' (ai:Nat) (l6 bs z.val)).1,(out++[(dq s' (ai:Nat) (l6 bs z.val)).2.1],0)):=by unfold kC;simp only[hag];simp
  have hbb: ∀x∈l6 bs z.val,x<256:=λx hx=>HR.o.2 x (vF (rD hx));have hpp:=tP S.x.1.1.ok.1 (ai:Nat) (l6 bs z.val) hbb;have hpo:=oh s' (ai:Nat) (l6 bs z.val);have C1:=ae λW h hv=>tN P D M0 s' au (ai:Nat) (by unfold bT;omega) 5 pv (l6 bs z.val) W h hv;rcases hg:dq s' (ai:Nat) (l6 bs z.val) with⟨s1,q,c⟩;rw[hg] at C1 hstp hpp hpo;simp only at C1 hstp hpp hpo;obtain⟨A,hA⟩:=gq (ah 3 (aN q));rw[az hA] at C1;have HA:=ae hA;have HF:=ae hf;have HPL:=ae hpl;have HOL:=ae hol;have haol: (out.length:Int)< (bI.length:Int):=au;have hx1:out.length<100000:=au;clear hg hA hpl hai hag hJ hol;rw[hpv]
  gi_upto_region 4 with fail
  refine tH pB S cm cm BO λW S=>?_;refine gY 0 16 (bZ P 0) rfl (gE S 4 (λ_ h=>h) rfl 0 rfl qv rfl WS) ?_;refine gY 1 17 (.slice (s_ ab ao) bI.length acap) rfl (gE S 3 (λ_ h=>h) rfl 0 rfl qv rfl WT) ?_;refine bp 2 18 (.slice ya out.length yc) ?_;refine bp 3 19 (.int .i64 out.length) ?_;refine bp 4 20 (bZ ab (ao+out.length)) ?_;refine gY 5 21 (.int .i64 ai) rfl (bP (λw h=>by obtain⟨_,S⟩:=h;exact hcell.o _ S.fr) rfl kX) ?_;refine bp 6 22 _ ?_
  repeat' first|refine Zf ?_|refine qK 8 15 _ (hS:=⟨_,S.pop⟩) ?_|refine qK 9 24 (.agg A) (hS:=⟨_,S.pop⟩) ?_|refine qK 10 25 (.int .i64 c) (hS:=⟨_,S.pop⟩) ?_|refine qK 13 11 _ (hS:=⟨_,S.pop⟩) ?_|refine qK 8 15 _ ?_|refine qK 9 24 (.agg A) ?_|refine qK 10 25 (.int .i64 c) ?_|refine JV 7 11 (λK hK=>?_) λK hK=>?_|refine tF 7 λK hK=>?_|refine tF 12 λK hK=>?_|refine tF 11 λK hK=>?_|(refine wj S D8 bz rfl λW S=>?_;refine hK.out _ _ ⟨_,S.pop⟩ λ_=>?_;try simp only[ax])|(go_wp2_with fail;refine(C1.o _ S.x.1.1 (hpsl.o _ S.fr)).mono ?_;rintro e W' ⟨rfl,hp,hf⟩;replace S:=S.call hf (λD e=>e) fh (gX.bS [nb,nb+1] W0 (hstab s1)) (λB h=>⟨⟨hp,(fm _).fr h.1.2 hf⟩,AN h.2 hf⟩);refine hK.out _ _ ⟨_,S.pop⟩ λ_=>?_;try simp only[ax])|(refine dL S 0 rfl rfl rfl HA.o bd (aE _) λW S=>?_;refine hK.out _ _ ⟨_,S.pop⟩ λ_=>?_;try simp only[ax])|(go_wp2_with fail;refine(C1.o _ S.x.1.1 (hpsl.o _ S.fr)).mono ?_;rintro e W' ⟨rfl,hp,hf⟩;replace S:=S.call hf (λD e=>e) fh (gX.bS [nb,nb+1] W0 (hstab s1)) (λB h=>⟨⟨hp,(fm _).fr h.1.2 hf⟩,AN h.2 hf⟩);refine gM hK ?_)
  all_goals (
  refine ae ?_;by_cases hc:c=0
  . subst hc;rw[bX fh] at hstp;have HN:=ae (show((pre++[z]).map λk=>l6 bs k.val).foldl (kC bI) (s,([],0))=(s1,(out++[q],0)) from by rw[pt,Km,HF.o];exact hstp);clear hstp
    gi_upto_region 7 with fail
    gi_upto_region 7 with fail
    refine eh pB cm BO ?_
    go_wp2_with (first
   |(with_reducible first|refine jl 29 107 8 S 1 0 (.slice ya out.length yc) ?_)
   |((with_reducible refine bN 32 29 31 ?_);refine lZ S 0 rfl 0 rfl rfl rfl rfl cN (aE _) JW BM λg9 c9 W S=>?_)
   |((with_reducible refine aS 107 8 32 ?_);refine nt S 2 rfl 0 qv rfl rfl rfl gx λW S=>?_)
   |refine fN ?_
   |refine ew λW S=>?_)
    gi_wp2
    have hk:=S.kept (hstab s1);have S9:=hk.2.2.pop.pop;refine⟨hk.1,hk.2.1,⟨some ⟨g9,0,none⟩,c9,s1,out++[q]⟩,ae ⟨HN.o,by rw[kh,kh,HOL.o];rfl,by grind,λr hr=>(jn.1 hr).elim (HPL.o r) (λh=>by grind)⟩,?_⟩;rw[kh,dU,kG];exact S9.ld (k:=0) rfl (g:=λ_=>.slice (s_ g9 0) (out.length+1) c9) λi hi=>by have hi:i<1:=hi;obtain rfl:i=0:=au;rfl
  . have g1: (c != 0)=true:=lh.2 hc;rw[bC hc] at hstp;have HN:=ae (show((pre++[z]).map λk=>l6 bs k.val).foldl (kC bI) (s,([],0))=(s1,([],c)) from by rw[pt,Km,HF.o];exact hstp);have HC:=ae hc;clear hstp hc
    gi_upto_region 6 with fail
    gi_upto_region 6 with fail
    refine eh pB cm BO ?_
    go_wp2_with (first
   |((with_reducible refine fE 107 6 ?_);refine nt S 3 rfl 0 (v:=.slice none 0 0) qv rfl rfl rfl gx λW S=>?_)
   |((with_reducible refine aS 27 7 28 ?_);refine nt S 2 rfl 0 qv rfl rfl rfl qR λW S=>?_))
    gi_wp2
    have hk:=S.kept (hstab s1);have S9:=hk.2.2.pop.P9;refine⟨hk.1,⟨⟨ya,yc,s1,out⟩,c⟩,ae ⟨rfl,HN.o,HC.o⟩,?_⟩;exact(S9.ld (k:=1) rfl (g:=λ_=>.int .i64 c) λi hi=>by have hi:i<1:=hi;obtain rfl:i=0:=au;rfl).ld (k:=2) rfl (g:=λ_=>.slice none 0 0) λi hi=>by grind
  )
 case done=>
  clear S;rintro D2 ys W0 hD rfl ⟨⟨ya,yc,s',out⟩,hJ,S⟩ hK;simp only at hJ S;obtain⟨hf,hol,hop,hpl⟩:=hJ.o;have hres:dt s bs bI=(s',(out,0)):=hf;have HRES:=ae hres;have HPL:=ae hpl;clear hol hop hpl hJ hres;replace S:=S.bS
  gi_upto_region 8 with fail
  gi_upto_region 8 with fail
  refine eh pB cm BO ?_
  go_wp2_with (first|(with_reducible refine jl 33 107 8 S 0 0 (.slice ya out.length yc) ?_)|((with_reducible refine aS 107 6 33 ?_);refine nt S 2 rfl 0 qv rfl rfl rfl gx λW S=>?_)|((with_reducible refine fE 27 7 ?_);refine nt S 1 rfl 0 (v:=.int .i64 0) qv rfl rfl rfl qR λW S=>?_))
  gi_wp2
  have hk:=S.kept (hstab s');refine xr hk.2.2 (hobj s') au (hk.1.same D2 _ hK rfl) λW' S=>?_;have hc6:=S.cell (k:=2) rfl (i:=0) Jr;have hc7:=S.cell (k:=1) rfl (i:=0) Jr;refine⟨.tuple #[.slice ya out.length yc,.int .i64 0],by simp[results,f279,go_sem,hc6,hc7],?_⟩;rw[HRES.o];exact⟨_,rfl,S.o0,HPL.o,S.x.1,S.fr⟩
 case stop=>
  clear S;rintro D2 cc pre W0 hD hpre ⟨⟨⟨ya,yc,s1,out⟩,c2⟩,hJ,S⟩ hK;simp only at hJ S;obtain⟨rfl,hf,hc⟩:=hJ.o;have HRES:=ae (IP hpre hf hc);clear hJ
  gi_wp2
  refine xr S (hobj s1) au hK λW' S=>?_;have hc6:=S.cell (k:=2) rfl (i:=0) Jr;have hc7:=S.cell (k:=1) rfl (i:=0) Jr;refine⟨.tuple #[.slice none 0 0,.int .i64 c2],by simp[results,f279,go_sem,hc6,hc7],?_⟩;rw[HRES.o];exact⟨_,rfl,dh.nil _ _,bm,S.x.1,S.fr⟩
theorem Li (P D M0:Nat)(s:Pl)(hops:s.dv.ops<=999000000)(bs:aK)(hbl:bs.length<=100000)(v:bh)(bI:aK)(av:bh)(hal:cw bs.length 128<=bI.length)(ham:bI.length<=100000)(hat: ∀x∈bI,x<=1000000)(w:aD)(h:bH w P D M0 s)(R:eX w 5 v bs)(RA:ar w 3 1 av bI.length (nD bI)):
 Calls prog 279 #[.pointer (some ⟨P,0,none⟩),v,av] w λe w'=>∃r,e=.returned (.tuple #[r,.int .i64 (dt s bs bI).2.2])/\dh w' w.heap.size r (dt s bs bI).2.1/\cx (dt s bs bI).2.1/\bH w' P D M0 (dt s bs bI).1/\Fr (some D) [] w w':=
 z7.1 (NZ P D M0 s hops bs hbl v bI av hal ham hat w h R RA)
attribute [local go_sem] Oper.semAt_some
def jL (ps:List aq) (k:Nat):List aq:=(ps.drop (k*8)).take 8
def fG (bI:aK) (a:Pl×(List aq×Int)) (part:List aq):Pl×(List aq×Int):=
 if a.2.2≠0 then a else
 match ot (λi=>part.getD i hole) with
 | none=>(a.1,([],51))
 | some sec=>
  if(dq a.1 (bI.getD a.2.1.length 0:Nat) sec).2.2≠0 then((dq a.1 (bI.getD a.2.1.length 0:Nat) sec).1,([],(dq a.1 (bI.getD a.2.1.length 0:Nat) sec).2.2))
  else((dq a.1 (bI.getD a.2.1.length 0:Nat) sec).1,(a.2.1++[(dq a.1 (bI.getD a.2.1.length 0:Nat) sec).2.1],0))
def dk (s:Pl) (ps:List aq) (bI:aK):Pl×(List aq×Int):=((finRange (cw ps.length 8)).map λk=>jL ps k.val).foldl (fG bI) (s,([],0))
theorem IQ (hc:c≠0)(q:List aq):fG bI (s,([],c)) q=(s,([],c)):=by
 grind[fG]
theorem Gd {p:List (Fin (cw bs.length 8))}(hp:p<+:finRange (cw bs.length 8))(h: (p.map λk=>jL bs k.val).foldl (fG bI) (s,([],0))=(s1,([],c)))(hc:c≠0):dk s bs bI=(s1,([],c)):=by
 obtain⟨r,hr⟩:=hp;unfold dk;rw[<-hr,pt,Km,h,ye (IQ hc)]
theorem Ub (hk:k<cw bs.length 8):0< (jL bs k).length/\(jL bs k).length<=8:=by
 grind[mJ,jL]
theorem QJ (hk:k<cw bs.length 8): ∃pb po,oe b o 3 bs.length 8 k=.slice (some ⟨pb,po,none⟩) (jL bs k).length (jL bs k).length:=by
 simp_all[jL,oe]
theorem N0 (h:cx bs)(k i:Nat):bt ((jL bs k).getD i hole):=by
 rw[DZ];cases hq: (jL bs k)[i]? with
 | none=>exact bD
 | some q=>exact h q (vF (rD (nf hq)))
theorem WX {c:Nat}(h:fM w (.slice (some ⟨b,o,none⟩) bs.length c) bs)(hk:k<cw bs.length 8):fM w (oe b o 3 bs.length 8 k) (jL bs k):=by
 have hk2:=(mJ (m:=bs.length) (n:=8) au).1 hk;have hl: (jL bs k).length=min 8 (bs.length - k*8):=by grind[jL]
 have h9:=ar.part (show ar w 106 3 _ bs.length (eo bs) from h) (i:=k*8) (y:=min 8 (bs.length - k*8)) au;unfold fM oe;rw[hl];rw[x6,x5] at h9
 grind[jL]
theorem N3 (b:Nat)(W:aD): (Instr.sliceAt 191 (.pointer (some ⟨b,0,none⟩)) none none none).run prog W=.ok (.slice (some ⟨b,0,none⟩) 8 8) W:=by
 rfl
theorem N4 (hl:l.length<=8): ((ah 24 (bJ λ_=>hole)).toList.take 0++eo l++(ah 24 (bJ λ_=>hole)).toList.drop (0+ (eo l).length)).toArray=ah 24 (bJ λi=>l.getD i hole):=by
 apply ER;intro j;rw[aF];simp only[take_zero,wv,Vd,rC];rw[Vf];by_cases h:j< (eo l).length
 . rw[bC h];rw[rO] at h;have hk:j / 3<l.length:=au;have hs:=fF l hk (A:=ah 3 (aN l[j / 3])) rfl (j % 3) au;rw[show j / 3*3+j % 3=j by omega,aF,bC au] at hs;rw[hs,bC au]
   grind[bJ]
 . rw[bX h,getElem?_drop,Nat.add_sub_cancel' au,qx (xs:=ah 24 _),aF];rw[rO] at h;by_cases h2:j<24
   . rw[bC h2,bC h2]
     grind[bJ]
   grind
theorem aaf {a:Act}{l:aK}{x:Nat}(S:St w0 d l L O X w)(k:Nat){pb po c:Nat}{o:Option Nat}(hk:L[k]? =some ⟨b,191,24,bJ λ_=>hole⟩)(R:fM w (.slice (some ⟨pb,po,none⟩) ps.length c) ps)(h0:0<ps.length)(hl:ps.length<=8)(hu:P.underlying 107=some (.slice 106))(hsz: (P.info? 106).map (·.size)=some 3)(hd:a.eval (.tmp x)=.slice (some ⟨b,0,none⟩) 8 8)(hs:a.eval (.tmp y)=.slice (some ⟨pb,po,none⟩) ps.length c)(h: ∀W,St w0 d l (L.set k ⟨b,191,24,bJ λi=>ps.getD i hole⟩) O X W->wpList P ops Q rest (a.put o (goInt ps.length)) W):
 wpList P ops Q (⟨o,.call {callee:=.builtin .copy,args:=#[.tmp x,.tmp y],argTypes:=#[107,107]},t2,p,af,none⟩::rest) a w:=by
 obtain⟨h1,ao,c',he,h2,h3,h4⟩:=R;obtain⟨b',o',cs,fl,rfl,hh,hc⟩:=h4 h0;simp only[mA,EZ,Addr.mk.injEq] at he;obtain⟨⟨rfl,rfl,-⟩,-,rfl⟩:=he;have hrun:=yE (P:=P) w 107 107 t2 106 b 0 8 8 ⟨pb,po,none⟩ ps.length c (ah 24 (bJ λ_=>hole)) 191 (eo ps) 3 ps.length hu hsz (S.ee hk) rE h1
  (λj u hj=>by
   have hadd: (⟨pb,po,none⟩:Addr).add j=⟨pb,po+j,none⟩:=by grind[Addr.add]
   grind[cell_of_row]) (by grind[aj]) (jY _)
 rw[N4 hl] at hrun;refine sD rfl λK hK=>?_;unfold Oper.wp;simp only[execOp,resolve,invoke,builtin,py,wB,rj,map_toArray,map_cons,map_nil,hd,hs,hrun];exact hK _ _ (h _ (S.set hk _))
theorem Lj (P D M0:Nat)(s:Pl)(hops:s.dv.ops<=999000000)(bs:List aq)(hbl:bs.length<=100000)(hbp:cx bs)(v:bh)(bI:aK)(av:bh)(hal:cw bs.length 8<=bI.length)(ham:bI.length<=100000)(hat: ∀x∈bI,x<=1000000)(w:aD)(h:bH w P D M0 s)(R:fM w v bs)(RA:ar w 3 1 av bI.length (nD bI)):
 CallsIn Fence.wide 5 prog 280 #[.pointer (some ⟨P,0,none⟩),v,av] w λe w'=>∃r,e=.returned (.tuple #[r,.int .i64 (dk s bs bI).2.2])/\dh w' w.heap.size r (dk s bs bI).2.1/\cx (dk s bs bI).2.1/\bH w' P D M0 (dk s bs bI).1/\Fr (some D) [] w w':=by
 obtain⟨bo,bcap,rfl,hbcap,hbo⟩:=aR R;obtain⟨aa,acap,rfl,hacap,haa⟩:=aR RA;have HR:=ae R;have HRA:=ae RA;have S:=St.start w (some D) [] (bu P D M0 s) h;have hN:cw bs.length 8<=100000:=au;clear R RA h;refine callsIn_of_wp_marks func280 rfl kO ?_ rfl;simp only[ntmps280,Ji,o8,we,reduceAdd,reduceSub,Jj,Jk,Jl,Jm,wv,Aj]
 gi_upto_region 0 with fail
 refine eh pB cm BO ?_
 go_wp2_with (first|((with_reducible refine gT 3 68 0 ?_);refine kN S (v:=bZ P 0) rfl rfl rfl λW3 S=>?_)|((with_reducible refine gT 5 81 2 ?_);refine kN S (v:=.slice aa bI.length acap) rfl rfl rfl λW5 S=>?_)|((with_reducible refine dH 6 107 ?_);refine kI S zeroValue107 rfl rfl λW6 S=>?_)|((with_reducible refine dH 7 27 ?_);refine kI S zeroValue27 rfl rfl λW7 S=>?_))
 gi_upto_region 1 with fail
 refine eh pB cm BO ?_
 go_wp2_with (refine ew λW S=>?_)
 gi_upto_region 2 with fail
 refine eh pB cm BO ?_
 go_wp2_with (go_at_call 289;refine(QB bo bs.length bcap _).mono ?_;rintro e W2 ⟨rfl,hW⟩;have HB:=ae (xq hW);clear hW)
 gi_wp2
 replace S:St w (some D) [] [⟨W7.heap.size,107,1,λ_=>.slice none 0 0⟩,⟨W6.heap.size,27,1,λ_=>.int .i64 0⟩,⟨W5.heap.size,107,1,λ_=>.slice none 0 0⟩,⟨W3.heap.size,81,1,λ_=>.slice aa bI.length acap⟩,⟨w.heap.size,68,1,λ_=>bZ P 0⟩] [] (Ae P D M0 s) W:=S;obtain⟨hb,hbl1,hbi,htl,hti,hsz⟩:=HB.o;obtain⟨nb,hnb⟩:=cM W.heap.size;rw[hnb] at hbl1 hbi htl hti ⊢;have hbs: ∀k∈ [nb,nb+1],(W.heap.size<=k∨k<w.heap.size)/\∃t,du W2 k=some t/\fk t=false/\df t=false:=by
  intro k hk;simp only[iI,kz,tZ] at hk;rcases hk with rfl | rfl
  . exact⟨.inl au,_,htl,rfl,rfl⟩
  . exact⟨.inl au,_,hti,rfl,rfl⟩
 replace S:=(S.yK 106 3 rfl rfl).Nz hb hbs;have hav:=S.x.2;have hw2:w.heap.size<=W2.heap.size:=S.fr.size;have hstab: ∀s',gX (some D) (λB w=>Ae P D M0 s' B w/\Mh [nb,nb+1] B w):=λs'=>(bu P D M0 s').still (fm _);have hobj: ∀s',lW (λB w=>Ae P D M0 s' B w/\Mh [nb,nb+1] B w):=λs'=>(lW.pl P D M0 s').and (lW.av _);obtain⟨b0,o0,hbo2⟩: ∃b o,0<bs.length->bo=s_ b o:=by
  grind
 refine wpIn_rangeFunc_ownF rfl au (gf:=293) (lb:=#[bZ nb 0,bZ (nb+1) 0]) rfl kO (enters_of func293 cm rfl)
  (Lb 4 nb (nb+1) bs.length bcap bo b0 o0 hbo2 hbcap au W2 hbl1 hbi) iB.trans (iB.book λk hk=>let⟨_,h1,_⟩:=(hav k hk).2;c7 h1) (iU _ _) (λ_=>rfl)
  (λpre W'=>∃y:WU,Hid ((pre.map λk=>jL bs k.val).foldl (fG bI) (s,([],0))=(y.s,(y.oq,0))/\y.oq.length=pre.length/\y.s.dv.ops<=s.dv.ops+pre.length/\cx y.oq)/\St w (some D) [] [⟨W7.heap.size,107,1,λ_=>.slice y.a y.oq.length y.c⟩,⟨W6.heap.size,27,1,λ_=>.int .i64 0⟩,⟨W5.heap.size,107,1,λ_=>.slice none 0 0⟩,⟨W3.heap.size,81,1,λ_=>.slice aa bI.length acap⟩,⟨w.heap.size,68,1,λ_=>bZ P 0⟩] [⟨106,3,.slice y.a y.oq.length y.c,y.oq.length,eo y.oq⟩] (λB w=>Ae P D M0 y.s B w/\Mh [nb,nb+1] B w) W')
  (λc pre W'=>∃y:YL,Hid (c=.ret/\(pre.map λk=>jL bs k.val).foldl (fG bI) (s,([],0))=(y.y.s,([],y.code))/\y.code≠0)/\St w (some D) [] [⟨W7.heap.size,107,1,λ_=>.slice y.y.a y.y.oq.length y.y.c⟩,⟨W6.heap.size,27,1,λ_=>.int .i64 y.code⟩,⟨W5.heap.size,107,1,λ_=>.slice none 0 0⟩,⟨W3.heap.size,81,1,λ_=>.slice aa bI.length acap⟩,⟨w.heap.size,68,1,λ_=>bZ P 0⟩] [] (λB w=>Ae P D M0 y.y.s B w/\Mh [nb,nb+1] B w) W')
  (mj hw2 _ _ _ _ λ_ (y:WU)=>hobj y.s) (λc=>mj hw2 _ _ _ _ λ_ (y:YL)=>hobj y.y.s)
  ⟨⟨none,0,s,[]⟩,ae ⟨rfl,rfl,eO _,bm⟩,S⟩ ?a1 ?assign ?body ?done ?stop
 case assign=>
  intro lp z W' K hK
  gi_wp2
  exact hK
 case body=>
  clear S;rintro lp pre z W0 ⟨⟨ya,yc,s',out⟩,hJ,S⟩ hpre;simp only at hJ S;obtain⟨hf,hol,hop,hpl⟩:=hJ.o;replace S:=S.bS;obtain⟨ab,ao,rfl⟩:=haa au;have hzm:=(mJ (m:=bs.length) (n:=8) au).1 z.isLt;obtain rfl:=hbo2 au;obtain⟨ai,hai⟩: ∃ai,bI[out.length]? =some ai:=⟨_,j4 au⟩;have hag:bI.getD out.length 0=ai:=by grind
  have hai2:=hat ai (nf hai);have hcell:=ae λW (h:Fr (some D) [] w W)=>(HRA.o.fr h (.inr rfl) rfl).cellAt (show 0<bI.length by omega) (show(nD bI)[out.length]? =some (.int .i64 ai) from by unfold nD;rw[tY,hai];rfl);obtain⟨pv,hpv⟩:=cM (oe b0 o0 3 bs.length 8 z.val);have hpsl:=ae λW (h:Fr (some D) [] w W)=>(show fM W pv (jL bs z.val) from by rw[<-hpv];exact WX (HR.o.fr h (.inr rfl) rfl) z.isLt);have hl8:=Ub (bs:=bs) z.isLt;have hpform: ∃pb po,pv=.slice (s_ pb po) (jL bs z.val).length (jL bs z.val).length:=by rw[<-hpv];exact QJ z.isLt
  have hstp:fG bI (s',(out,0)) (jL bs z.val)=match ot (λi=>(jL bs z.val).getD i hole) with | none=>(s',([],51)) | some sec=>if(dq s' (ai:Nat) sec).2.2≠0 then((dq s' (ai:Nat) sec).1,([],(dq s' (ai:Nat) sec).2.2)) else((dq s' (ai:Nat) sec).1,(out++[(dq s' (ai:Nat) sec).2.1],0)):=by unfold fG;simp only[hag];simp
  have hbb: ∀i,i<8->bt ((jL bs z.val).getD i hole):=λi _=>N0 hbp z.val i;obtain⟨pp,HPE⟩:=qI (jL bs z.val);rw[HPE.o] at hstp hbb hpsl hl8 hpform;obtain⟨nl,hnl⟩: ∃nl:Nat->aq,nl=λi=>pp.getD i hole:=⟨_,rfl⟩;have C2:=ae λW=>yF nl (by rw[hnl];exact hbb) W;rw[<-hnl] at hstp;have HNL:=ae hnl;obtain⟨NV,HNV⟩:=BU (ah 24 (bJ nl));rw[show VR nl=.agg NV by rw[HNV.o];rfl] at C2;have HF:=ae hf;have HPL:=ae hpl;have HOL:=ae hol;have haol: (out.length:Int)< (bI.length:Int):=au;have hx1:out.length<100000:=au;have HPF:=ae hpform;clear hpl hai hag hJ hol hnl hpform;rw[hpv];obtain⟨pb,po,hpf⟩:=HPF.o;subst hpf
  gi_upto_region 4 with fail
  gi_upto_region 4 with fail
  refine eh pB cm BO ?_
  go_wp2_with (refine ew λW S=>?_)
  gi_upto_region 5 with fail
  refine eh pB cm BO ?_
  go_wp2_with (first|((with_reducible refine ej 17 191 10 ?_);refine iV rfl 191 (.tmp 10) none none none rfl _ (N3 _ _) ?_)|((with_reducible refine vd 17 18 ?_);refine aaf S 0 rfl (hpsl.o _ S.fr) hl8.1 hl8.2 underlying107 eT rfl rfl λW S=>?_;rw[<-HNL.o] at S))
  cases hn:ot nl with
  | none=>
   rw[hn] at hstp C2;simp only at hstp;have e51:codeF 51 (none:Option aK)=51:=rfl;rw[e51] at C2;have HN:=ae (show((pre++[z]).map λk=>jL bs k.val).foldl (fG bI) (s,([],0))=(s',([],51)) from by rw[pt,Km,HF.o];show fG bI (s',(out,0)) (jL bs z.val)=_;rw[HPE.o];exact hstp);clear hstp hn e51
   gi_upto_region 6 with fail
   gi_upto_region 6 with fail
   refine eh pB cm BO ?_
   go_wp2_with (first|(go_at_call 185;refine(C2.o _).mono ?_;rintro e W ⟨B,rfl,hB,hb⟩;have HB:=ae hB;replace S:=S.below hb;clear hB)|((with_reducible refine aS 36 11 23 ?_);refine kP S rfl rfl HB.o qk rfl pB (bV _) λW S=>?_)|refine fN ?_)
   gi_upto_region 8 with fail
   gi_upto_region 8 with fail
   refine eh pB cm BO ?_
   go_wp2_with (first|((with_reducible refine aS 27 7 27 ?_);refine nt S 3 rfl 0 qv rfl rfl rfl qR λW S=>?_)|refine ew λW S=>?_)
   gi_wp2
   have hk:=S.kept (hstab s');have S9:=hk.2.2.pop.pop.P9;refine⟨hk.1,⟨⟨ya,yc,s',out⟩,51⟩,ae ⟨rfl,HN.o,show(51:Int)≠0 by decide⟩,?_⟩;exact(S9.ld (k:=1) rfl (g:=λ_=>.int .i64 51) λi hi=>by have hi:i<1:=hi;obtain rfl:i=0:=au;rfl).ld (k:=2) rfl (g:=λ_=>.slice none 0 0) λi hi=>by grind
  | some sec=>
   have hok:=zG hn;rw[hn] at hstp C2;simp only at hstp;have e51:codeF 51 (some sec)=0:=rfl;rw[e51] at C2;simp only[mb] at C2;have hpp:=tP S.x.1.1.ok.1 (ai:Nat) sec hok.2;have hpo:=oh s' (ai:Nat) sec;have C1:=ae λW pv h hv=>tN P D M0 s' au (ai:Nat) (by unfold bT;omega) 36 pv sec W h hv;rcases hg:dq s' (ai:Nat) sec with⟨s1,q,c⟩;rw[hg] at C1 hstp hpp hpo;simp only at C1 hstp hpp hpo;obtain⟨A,hA⟩:=gq (ah 3 (aN q));rw[az hA] at C1;have HA:=ae hA;have HOK:=ae hok;clear hg hA hn e51 hok
   gi_upto_region 6 with fail
   gi_upto_region 6 with fail
   refine eh pB cm BO ?_
   go_wp2_with (first|(go_at_call 185;refine(C2.o _).mono ?_;rintro e WN ⟨B,rfl,hB,hb⟩;have HB:=ae hB;replace S:=S.below hb;clear hB)|((with_reducible refine aS 36 11 23 ?_);refine kP S rfl rfl HB.o qk rfl pB (bV _) λW S=>?_)|refine fN ?_)
   gi_upto_region 9 with fail
   refine tH pB S cm cm BO λW S=>?_;refine gY 0 29 (bZ P 0) rfl (gE S 6 (λ_ h=>h) rfl 0 rfl qv rfl WS) ?_;refine gY 1 30 (.slice (s_ ab ao) bI.length acap) rfl (gE S 5 (λ_ h=>h) rfl 0 rfl qv rfl WT) ?_;refine bp 2 31 (.slice ya out.length yc) ?_;refine bp 3 32 (.int .i64 out.length) ?_;refine bp 4 33 (bZ ab (ao+out.length)) ?_;refine gY 5 34 (.int .i64 ai) rfl (bP (λw h=>by obtain⟨_,S⟩:=h;exact hcell.o _ S.fr) rfl kX) ?_;refine bp 6 35 (.slice (s_ WN.heap.size 0) 128 128) ?_;refine r2_ 7 11 (λK hK=>?_) λK hK=>?_
   rotate_left
   focus (
    refine wj S D8 bz rfl λW S=>?_;refine hK.out _ _ ⟨_,S.pop⟩ λ_=>?_
    try simp only[ax]
    clear hK K;refine mO 7 λK hK=>?_
    go_wp2_with fail
    refine(C1.o _ _ S.x.1.1 (eX.sec (S.row ⟨WN.heap.size,36,128,aw sec⟩ (by simp only[jS,jT])).1 HOK.o)).mono ?_;rintro e W' ⟨rfl,hp,hf⟩;replace S:=S.call hf (λD e=>e) fh (gX.bS [nb,nb+1] W0 (hstab s1)) (λB h=>⟨⟨hp,(fm _).fr h.1.2 hf⟩,AN h.2 hf⟩);refine hK.out _ _ ⟨_,S.pop⟩ λ_=>?_;refine bp 8 28 _ (hS:=⟨_,S.pop⟩) ?_;refine bp 9 37 (.agg A) (hS:=⟨_,S.pop⟩) ?_;refine bp 10 38 (.int .i64 c) (hS:=⟨_,S.pop⟩) ?_;refine mO 12 λK hK=>?_;refine dL S 0 rfl rfl rfl HA.o bd (aE _) λW S=>?_;refine hK.out _ _ ⟨_,S.pop⟩ λ_=>?_
    try simp only[ax]
    clear hK K;refine bp 13 12 _ (hS:=⟨_,S.pop⟩) ?_;refine uy ?_
   )
   rotate_left
   focus (
    go_wp2_with fail
    refine(C1.o _ _ S.x.1.1 (eX.sec (S.row ⟨WN.heap.size,36,128,aw sec⟩ (by simp only[jS,jT])).1 HOK.o)).mono ?_;rintro e W' ⟨rfl,hp,hf⟩;replace S:=S.call hf (λD e=>e) fh (gX.bS [nb,nb+1] W0 (hstab s1)) (λB h=>⟨⟨hp,(fm _).fr h.1.2 hf⟩,AN h.2 hf⟩);refine gM hK ?_;refine bp 8 28 _ ?_;refine bp 9 37 (.agg A) ?_;refine bp 10 38 (.int .i64 c) ?_;refine mO 11 λK hK=>?_;refine wj S D8 bz rfl λW S=>?_;refine hK.out _ _ ⟨_,S.pop⟩ λ_=>?_
    try simp only[ax]
    clear hK K;refine mO 12 λK hK=>?_;refine dL S 0 rfl rfl rfl HA.o bd (aE _) λW S=>?_;refine hK.out _ _ ⟨_,S.pop⟩ λ_=>?_
    try simp only[ax]
    clear hK K;refine bp 13 12 _ (hS:=⟨_,S.pop⟩) ?_;refine uy ?_
   )
   all_goals (
   by_cases hc:c=0
   . subst hc;rw[bX fh] at hstp;have HN:=ae (show((pre++[z]).map λk=>jL bs k.val).foldl (fG bI) (s,([],0))=(s1,(out++[q],0)) from by rw[pt,Km,HF.o];show fG bI (s',(out,0)) (jL bs z.val)=_;rw[HPE.o];exact hstp);clear hstp
     gi_upto_region 12 with fail
     gi_upto_region 12 with fail
     refine eh pB cm BO ?_
     go_wp2_with (first
   |((with_reducible refine bN 45 42 44 ?_);refine lZ S 0 rfl 0 rfl rfl rfl rfl cN (aE _) JW BM λg9 c9 W S=>?_)
   |((with_reducible refine aS 107 8 45 ?_);refine nt S 4 rfl 0 qv rfl rfl rfl gx λW S=>?_)
   |refine fN ?_
   |refine ew λW S=>?_)
     gi_wp2
     have hk:=S.kept (hstab s1);have S9:=hk.2.2.pop.pop.pop.pop;refine⟨hk.1,hk.2.1,⟨some ⟨g9,0,none⟩,c9,s1,out++[q]⟩,ae ⟨HN.o,by rw[kh,kh,HOL.o];rfl,by grind,λr hr=>(jn.1 hr).elim (HPL.o r) (λh=>by grind)⟩,?_⟩;rw[kh,dU,kG];exact S9.ld (k:=0) rfl (g:=λ_=>.slice (s_ g9 0) (out.length+1) c9) λi hi=>by have hi:i<1:=hi;obtain rfl:i=0:=au;rfl
   . have g1: (c != 0)=true:=lh.2 hc;rw[bC hc] at hstp;have HN:=ae (show((pre++[z]).map λk=>jL bs k.val).foldl (fG bI) (s,([],0))=(s1,([],c)) from by rw[pt,Km,HF.o];show fG bI (s',(out,0)) (jL bs z.val)=_;rw[HPE.o];exact hstp);have HC:=ae hc;clear hstp hc
     gi_upto_region 11 with fail
     gi_upto_region 11 with fail
     refine eh pB cm BO ?_
     go_wp2_with (first
   |((with_reducible refine aS 27 7 41 ?_);refine nt S 4 rfl 0 qv rfl rfl rfl qR λW S=>?_)
   |refine ew λW S=>?_)
     gi_wp2
     have hk:=S.kept (hstab s1);have S9:=hk.2.2.pop.pop.pop.P9;refine⟨hk.1,⟨⟨ya,yc,s1,out⟩,c⟩,ae ⟨rfl,HN.o,HC.o⟩,?_⟩;exact(S9.ld (k:=1) rfl (g:=λ_=>.int .i64 c) λi hi=>by have hi:i<1:=hi;obtain rfl:i=0:=au;rfl).ld (k:=2) rfl (g:=λ_=>.slice none 0 0) λi hi=>by grind
   )
 case done=>
  clear S;rintro D2 ys W0 hD rfl ⟨⟨ya,yc,s',out⟩,hJ,S⟩ hK;simp only at hJ S;obtain⟨hf,hol,hop,hpl⟩:=hJ.o;have hres:dk s bs bI=(s',(out,0)):=hf;have HRES:=ae hres;have HPL:=ae hpl;clear hol hop hpl hJ hres;replace S:=S.bS
  gi_upto_region 13 with fail
  gi_upto_region 13 with fail
  refine eh pB cm BO ?_
  go_wp2_with (first|(with_reducible refine jl 46 107 8 S 0 0 (.slice ya out.length yc) ?_)|((with_reducible refine aS 107 6 46 ?_);refine nt S 2 rfl 0 qv rfl rfl rfl gx λW S=>?_)|((with_reducible refine fE 27 7 ?_);refine nt S 1 rfl 0 (v:=.int .i64 0) qv rfl rfl rfl qR λW S=>?_))
  gi_wp2
  have hk:=S.kept (hstab s');refine xr hk.2.2 (hobj s') au (hk.1.same D2 _ hK rfl) λW' S=>?_;have hc6:=S.cell (k:=2) rfl (i:=0) Jr;have hc7:=S.cell (k:=1) rfl (i:=0) Jr;refine⟨.tuple #[.slice ya out.length yc,.int .i64 0],by simp[results,f280,go_sem,hc6,hc7],?_⟩;rw[HRES.o];exact⟨_,rfl,S.o0,HPL.o,S.x.1,S.fr⟩
 case stop=>
  clear S;rintro D2 cc pre W0 hD hpre ⟨⟨⟨ya,yc,s1,out⟩,c2⟩,hJ,S⟩ hK;simp only at hJ S;obtain⟨rfl,hf,hc⟩:=hJ.o;have HRES:=ae (Gd hpre hf hc);clear hJ
  gi_wp2
  refine xr S (hobj s1) au hK λW' S=>?_;have hc6:=S.cell (k:=2) rfl (i:=0) Jr;have hc7:=S.cell (k:=1) rfl (i:=0) Jr;refine⟨.tuple #[.slice none 0 0,.int .i64 c2],by simp[results,f280,go_sem,hc6,hc7],?_⟩;rw[HRES.o];exact⟨_,rfl,dh.nil _ _,bm,S.x.1,S.fr⟩
theorem IS (P D M0:Nat)(s:Pl)(hops:s.dv.ops<=999000000)(bs:List aq)(hbl:bs.length<=100000)(hbp:cx bs)(v:bh)(bI:aK)(av:bh)(hal:cw bs.length 8<=bI.length)(ham:bI.length<=100000)(hat: ∀x∈bI,x<=1000000)(w:aD)(h:bH w P D M0 s)(R:fM w v bs)(RA:ar w 3 1 av bI.length (nD bI)):
 Calls prog 280 #[.pointer (some ⟨P,0,none⟩),v,av] w λe w'=>∃r,e=.returned (.tuple #[r,.int .i64 (dk s bs bI).2.2])/\dh w' w.heap.size r (dk s bs bI).2.1/\cx (dk s bs bI).2.1/\bH w' P D M0 (dk s bs bI).1/\Fr (some D) [] w w':=
 z7.1 (Lj P D M0 s hops bs hbl hbp v bI av hal ham hat w h R RA)
end Go.Proofs.YtklligbjoplbgaaGreat
