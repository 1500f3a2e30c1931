/- Part 5 of the proof of WholeAudit. No conditions. -/
import Derived.Test.YtklligbjoplbgaaGreatRad
set_option linter.all false
open List renaming length->List.n
open String renaming length->String.n
open Array renaming size->Array.s,toList->Array.t
open ByteArray renaming size->ByteArray.s
open Go.TypeInfo renaming size->Go.TypeInfo.s
open Go.RowKit.Below renaming size->Go.RowKit.Below.s
open Option renaming toList->Option.t,some->cu,none->cw
open Go.World renaming heap->Go.World.h
open Int renaming toNat->Int.m
open Go.Value renaming int->bU,agg->bV,pointer->bW,slice->bX,string->bY,bool->bZ,tuple->cg
open Go.Ending renaming returned->cj
open Go.IntKind renaming i64->cq,u64->ct
open Bool renaming true->cx,false->cy
namespace Go.Proofs.YtklligbjoplbgaaGreat
set_option maxRecDepth 100000
set_option maxHeartbeats 64000000
open Go.RowKit Lib List Nat _root_.Go.Proofs.Tryz Go.Shelf
variable {A U tmps:gJ}{a:Act}{K:Act->cS->Prop}{af:Array Edge}{ops:Array Oper}{R:Ending->cS->Prop}{Q:Exit->Act->cS->Prop}{fn:Func}{g g':iV}{c:Int}{B ee bs l l2 ls sp:cV}{X X':cV->cS->Prop}{seen:List (Nat×fM)}{log:List Int}{ms:List kV}{O:List O4}{rest:List Oper}{ps:List cQ}{L rs:List R4}{xs:List c7}{kl:Lit}{D E G M b base by' cap dst i j k m n n1 n2 o want y z:Nat}{st:Nat->Nat}{f:Nat->c7}{a' ao:Option Addr}{d d2:Option Nat}{P:oN}{s s' s1 s2:Pl}{p1 p2 q r1 r2 cO:cQ}{r:R4}{p:String}{e t t2 ty:dW}{α β:Type}{key v:c7}{W w w' w0:cS}
section
attribute[local irreducible]wpList Code.wp Calls Oper.wp wpAnyH
def R'(P D M:Nat)(s:Pl)(ho:s.dv.ops<=999999000)(q:cQ)(hq:dD q)(i:Int)(w:cS)(h:fh w P D M s):
 CP_ 95 #[bW (cu ⟨P,0,cw⟩),mO q,bU cq i] w λe w'=>∃r,e=cj (cg #[mO (iF s q i).2.1,r,bU cq (iF s q i).2.2.2])/\ir w' w.h.s r (iF s q i).2.2.1/\fh w' P D M (iF s q i).1/\Fr (cu D) [M] w w':=by
 obtain⟨A,hA⟩:=fU (cM 3 (dE q));have b9:=dk hA;have S:=St.start w (cu D) [M] (dR P D M s) h;have C1:=cz λW=>Gi i W;obtain⟨T,HT⟩:=sV (iF s q i);rw[HT.o,b9];have HA:=cz hA;have h0:=And.intro h.dev.ok h.ok.1;clear hA h;go_enter func95,ntmps95;cases I:mY i with
 |false=>
  rw[I] at C1;obtain rfl:(s,(q,[],(111:Int)))=T:=by rw[<-HT.o];unfold iF;rw[c8 I]
  clear I;go_wp2_with first|refine mG (C1.o _) ?_|(refine mu ?_;exact⟨_,by rw[dk (q:=q) rfl];rfl,ir.nil _ _,S.x,S.fr⟩)|refine fO ?_|refine fu λW S=>?_
 |true=>
  rw[I] at C1;obtain⟨k,rfl⟩:∃k:Nat,i=(k:Int):=⟨i.m,by unfold mY at I;rw[qQ] at I;omega⟩;have hk:k<64:=by unfold mY at I;rw[qQ] at I;omega
  have l:=cz (show(if(fB s q k).2.2≠0 then((fB s q k).1,(q,[],(fB s q k).2.2)) else if(fB s q k).2.1.block=cY then((fB s q k).1,(q,[],0)) else om (fB s q k).1 (fB s q k).2.1 q k)=T by
   rw[<-HT.o];unfold iF;rw[cX (show¬mY (k:Int)=cy by rw[I];decide)];rfl)
  have C2:=cz λW(X:fh W P D M s)=>Cj P D M s q hq k hk W X;have F:=uT s q k;have Q:=rQ h0.1 q k;have R:=uU s q k;clear I HT;obtain⟨r,V⟩:=dG (fB s q k);rw[V] at C2 l F Q R;obtain⟨s1,y,c1⟩:=r;simp only at C2 l F Q R;have a5:=cz Q;have a6:=cz (show gU s1.cR by rw[R];exact h0.2);clear Q R;rw[b9] at C2;clear V
  go_upto_region 4 with(first|refine yT S rfl HA.o rfl λWB S=>?_|refine mG (C1.o _) ?_|(refine(C2.o _ S.x).mono ?_;rintro e H ⟨N,rfl,hN,hp,hf⟩;have HN:=cz hN;replace S:=S.call hf (λD e=>e) eQ (dR P D M s1) (λB h=>hp);clear hN)|refine fO ?_|refine fu λW S=>?_)
  by_cases g1:c1=0
  case neg=>
   have g2:(c1 !=0)=cx:=fK.2 g1;obtain rfl:(s1,(q,[],c1))=T:=by rw[<-l.o,c8 g1]
   clear g1
   go_wp2_with first|(refine mu ?_;exact⟨_,by rw[dk (q:=q) rfl];rfl,ir.nil _ _,S.x,S.fr⟩)|refine fO ?_|refine fu λW S=>?_
  subst g1;obtain⟨BA,b4⟩:=fU (cM 3 (dE y.block));have c6:=cz b4;have d9:=dk b4;obtain⟨zb,c4⟩:=dG (decide (y.block=cY));have e5:=F6 y.block cY zb c4;obtain⟨ZH,O⟩:=fU (cM 3 (dE cY));have e7:=cz O;have e1:=dk O;rw[d9,e1] at e5;have c5:=cz (show prog.built 106 []=cu ZH by rw[O,<-iU];exact MX);have b3:=cz c4;clear b4 d9 c4 e1 O;cases zb with
  |true=>
   obtain rfl:(s1,(q,[],(0:Int)))=T:=by rw[<-l.o,cX (λh=>h rfl),c8 (mj b3.o)]
   go_wp2_with first|refine oM_ S 0 rfl (o:=48) (m:=3) (dE y.block) (Gu y) c6.o ?_|(refine mf dC ?_;refine lE (cells:=ZH) rfl c5.o ?_)|(refine mu ?_;exact⟨_,by rw[dk (q:=q) rfl];rfl,ir.nil _ _,S.x,S.fr⟩)|refine fO ?_|refine fu λW S=>?_
  |false=>
   have a8:=cz (show om s1 y q k=T by rw[<-l.o,cX (λh=>h rfl),cX (ym b3.o)]);clear l b3
   go_upto_region 6 with(first|refine oM_ S 0 rfl (o:=48) (m:=3) (dE y.block) (Gu y) c6.o ?_|(refine mf dC ?_;refine lE (cells:=ZH) rfl c5.o ?_))
   obtain⟨N1,a2⟩:=yw (cM 24 (eX y.first));obtain⟨N2,a3⟩:=yw (cM 24 (eX y.mE));obtain⟨E,b7⟩:=dG (k/8);obtain⟨i2,b8⟩:=dG (k%8);have d8:E<8:=cN;have e6:i2<8:=cN;have e9:(k:Int)/8=(E:Int):=cN;have e4:(k:Int)%8=(i2:Int):=cN;obtain⟨n1,G⟩:=yw (jn y.first E cY);obtain⟨n2,J⟩:=yw (jn y.mE i2 cY);obtain⟨M1,b5⟩:=fU (cM 24 (eX n1));obtain⟨M2,b6⟩:=fU (cM 24 (eX n2));have Z:=cz b5;have e2:=cz b6;have t0:=adF (s:=s1) (y:=y) (cO:=q) (i:=k);have t1:=adG (s:=s1) (y:=y) (cO:=q) (i:=k);have t2:=adH (s:=s1) (y:=y) (cO:=q) (i:=k);rw[b7,b8,<-G.o,<-J.o,a8.o] at t0 t1;rw[b7,b8,<-G.o,<-J.o,a8.o] at t2;obtain⟨b1,d5⟩:=dG (rR n1);obtain⟨b2,d6⟩:=dG (rR n2);have C3:=cz λW=>Ff n1 M1 b5 W;have C4:=cz λW=>Ff n2 M2 b6 W;rw[d5] at C3 t0 t1;rw[d6] at C4 t0 t1 t2;have C5:=cz λW(X:fh W P D M s1)=>mD P D M s1.cR s1.base W X.row;have C6:=cz λW(X:fh W P D M s1)=>count_map M s1.mp W X.map;obtain⟨cn,d7⟩:=dG (fI s1.mp);rw[d7] at C6 t1 t2;have a7:=cz t0;have l:=cz t1;have a9:=cz t2;have a4:=cz F;clear b7 b8 b5 b6 d5 d6 d7 a8 t0 t1 t2 F;refine eR S dC [⟨H.h.s,193,51,nS y⟩] Cz λW S=>?_;refine dh 0 (dF H.h.s 0) ?_;refine ij 1 (bV N1) rfl (yKn (λw h=>h.row 0 rfl) (o:=0) (m:=24) rfl (eX y.first) rh (MV y) a2.o Cy) ?_;refine dh 2 (dF H.h.s 24) ?_;refine ij 3 (bV N2) rfl (yKn (λw h=>h.row 0 rfl) (o:=24) (m:=24) rfl (eX y.mE) rh (Ko y) a3.o Cy) ?_
   repeat' first|refine Th ?_|refine Bt 4 5 (λK p=>?_) λK p=>?_|refine qf 5 λK p=>?_|refine qf 4 λK p=>?_|refine qf 6 λK p=>?_|refine qf 7 λK p=>?_|(refine gu (dst:=11) S zeroValue191 Eu rfl λE1 W S=>?_;refine gy p ?_)|(refine gu (dst:=12) S zeroValue191 Eu rfl λE2 W S=>?_;refine gy p ?_)|((first|(refine km S 0 rfl rfl rfl a2.o Cy (nR _) λW S=>?_)|refine km S 1 rfl rfl rfl a2.o Cy (nR _) λW S=>?_);refine gy p ?_)|((first|(refine km S 0 rfl rfl rfl a3.o Cy (nR _) λW S=>?_)|refine km S 1 rfl rfl rfl a3.o Cy (nR _) λW S=>?_);refine gy p ?_)
   all_goals(
    refine cz ?_
    first|(replace S:St w (cu D) [M] (⟨E2,191,24,eX y.mE⟩:: ⟨E1,191,24,eX y.first⟩:: ⟨H.h.s,193,51,nS y⟩::_) [] _ W:=S)|(replace S:St w (cu D) [M] (⟨E2,191,24,eX y.mE⟩:: ⟨E1,191,24,eX y.first⟩:: ⟨H.h.s,193,51,nS y⟩::_) [] _ W:=S.aek)
    go_upto_region 10 with(first|refine ixN e6 rfl (by first|exact gQ (Value.int cq) e4) ?_|refine ixN d8 rfl (by first|rfl) ?_|refine Ka S 0 rfl (o:=i2*3) (m:=3) (show i2*3+3<=24 by omega) rfl rfl iU fL (dJ _) (λw' V e=>H9 V i2 cY e) λW S=>?_|refine Ka S 1 rfl (o:=E*3) (m:=3) (show E*3+3<=24 by omega) rfl rfl iU fL (dJ _) (λw' V e=>H9 V E cY e) λW S=>?_|refine fO ?_)
    rw[<-G.o,<-J.o] at S;have C9:=cz λW=>H' y q k hk N HN.o W;rw[b9] at C9;cases b2 with
    |false=>
     have a:=cz (a9.o rfl);clear a7 l a9;by_cases g3:cn<2
     case pos=>
      rw[c8 g3] at a;obtain rfl:=a.o
      go_wp2_with first|refine je S (C4.o _) λW S=>?_|refine mG (C5.o _ S.x) ?_|refine mG (C6.o _ S.x) ?_|(refine mu ?_;exact⟨_,by rw[dk (q:=q) rfl];rfl,ir.nil _ _,S.x,S.fr⟩)|refine fO ?_|refine fu λW S=>?_
     rw[cX g3] at a;have C:=cz λW(X:fh W P D M s1)=>vh P D M s1 (by have:=a4.o;omega) n2 (λi _=>by rw[J.o];exact we a5.o.2.1 dV i) M2 e2.o W X;have c:=oh (s:=s1) (by exact a6.o) n2;have d:=nI s1 n2;have g:=oj s1 n2;obtain⟨u,Y⟩:=dG (fE s1 n2);rw[Y] at C a d g c;obtain⟨s2,p2,c2⟩:=u;simp only at C a d g c;obtain⟨e8,j⟩:=fU (cM 3 (dE p2));rw[dk j] at C;have c7:=cz j;have d2:=cz c;have d1:=cz d;have d4:=cz g;clear Y j c d g
     go_upto_region 18 with(first|refine je S (C4.o _) λW S=>?_|refine mG (C5.o _ S.x) ?_|refine mG (C6.o _ S.x) ?_|(refine(C.o _ S.x).mono ?_;rintro e W ⟨rfl,hp,hf⟩;replace S:=S.call hf (λD e=>e) eQ (dR P D M s2) (λB h=>hp))|refine ixN d8 rfl (by first|rfl) ?_|refine Ka S 1 rfl (o:=E*3) (m:=3) (show E*3+3<=24 by omega) rfl rfl c7.o fL (dJ _) (λw' V e=>H9 V E p2 e) λW S=>?_|refine fO ?_)
     clear C;by_cases g5:c2=0
     case neg=>
      have g6:(c2 !=0)=cx:=fK.2 g5;rw[c8 g5] at a;obtain rfl:=a.o;clear g5
      go_wp2_with first|(refine mu ?_;exact⟨_,by rw[dk (q:=q) rfl];rfl,ir.nil _ _,S.x,S.fr⟩)|refine fO ?_|refine fu λW S=>?_
     subst g5;rw[cX (λh=>h rfl)] at a;obtain⟨M3,a1⟩:=yw (cM 24 (eX (jn n1 E p2)));have C:=cz λW(X:fh W P D M s2)=>vh P D M s2 (by have:=a4.o;have:=d1.o;omega) (jn n1 E p2) (λi _=>by rw[G.o];exact we (we a5.o.1 dV) d2.o i) M3 a1.o W X;have c:=oh (s:=s2) (by have:=d4.o;rw[this];exact a6.o) (jn n1 E p2);have d:=nI s2 (jn n1 E p2);have g:=oj s2 (jn n1 E p2);obtain⟨u,Y⟩:=dG (fE s2 (jn n1 E p2));rw[Y] at C a d g c;obtain⟨s3,U,c3⟩:=u;simp only at C a d g c;obtain⟨e3,j⟩:=fU (cM 3 (dE U));rw[dk j] at C;have c9:=cz j;have d3:=cz c;clear Y j c d g
     go_upto_region 23 with(first|(refine(C.o _ S.x).mono ?_;rintro e W ⟨rfl,hp,hf⟩;replace S:=S.call hf (λD e=>e) eQ (dR P D M s3) (λB h=>hp))|refine fO ?_|refine fu λW S=>?_)
     by_cases L:c3=0
     case neg=>
      have g8:(c3 !=0)=cx:=fK.2 L;rw[c8 L] at a;obtain rfl:=a.o;clear L
      go_wp2_with first|(refine mu ?_;exact⟨_,by rw[dk (q:=q) rfl];rfl,ir.nil _ _,S.x,S.fr⟩)|refine fO ?_|refine fu λW S=>?_
     subst L;rw[cX (λh=>h rfl)] at a;obtain rfl:=a.o;obtain⟨PX,x⟩:=yw (cM 3 (dE U))
     go_upto_region 25 with(fail)
     try simp only[By,FQ] at S
     obtain⟨TC,z⟩:=S.nm;rw[z] at S|-;clear z;refine eR S dC [⟨TC,106,3,dE U⟩,⟨H.h.s,193,51,nS y⟩,⟨w.h.s,106,3,dE q⟩] Cz λW S=>?_;refine ij 0 (bV PX) rfl (rA (λw h=>h.row 0 rfl) rfl x.o fL) ?_;refine ij 1 (bV N) rfl (rA (b:=H.h.s) (t:=193) (n:=51) (f:=nS y) (λw h=>h.row 1 rfl) rfl HN.o U2) ?_;refine ij 2 (bV A) rfl (rA (b:=w.h.s) (t:=106) (n:=3) (f:=dE q) (λw h=>h.row 2 rfl) rfl HA.o fL) ?_;refine dh 3 _ ?_;refine kK 4 λK p=>?_
     go_wp2_with fail
     refine(C9.o _).mono ?_;rintro e W ⟨v,rfl,ho,hb⟩;replace S:=S.iw hb ho rfl rfl;clear ho;refine gy p ?_;refine kK 5 λK p=>?_;refine km S 4 rfl rfl rfl x.o fL (dJ _) λW S=>?_;refine gy p ?_;refine dh 6 _ ?_;refine dh 7 _ ?_;refine qG ?_
     go_wp2_with (refine mu ?_;exact⟨_,by rw[dk (q:=U) rfl];rfl,S.o0,S.x,S.fr⟩)
    |true=>
     clear a9;cases b1 with
     |false=>
      have a:=cz (l.o rfl rfl);clear a7 l;by_cases g3:cn<1
      case pos=>
       rw[c8 g3] at a;obtain rfl:=a.o
       go_wp2_with first|(first|refine jj 52 191 11 S 1 Z.o ?_)|refine je S (C4.o _) λW S=>?_|refine je S (C3.o _) λW S=>?_|refine mG (C5.o _ S.x) ?_|refine mG (C6.o _ S.x) ?_|(refine mu ?_;exact⟨_,by rw[dk (q:=q) rfl];rfl,ir.nil _ _,S.x,S.fr⟩)|refine fO ?_|refine fu λW S=>?_
      rw[cX g3] at a
      go_upto_region 20 with(first|(first|refine jj 52 191 11 S 1 Z.o ?_)|refine je S (C4.o _) λW S=>?_|refine je S (C3.o _) λW S=>?_|refine mG (C5.o _ S.x) ?_|refine mG (C6.o _ S.x) ?_|refine fO ?_)
      obtain⟨M3,a1⟩:=yw (cM 24 (eX (n1)));have C:=cz λW(X:fh W P D M s1)=>vh P D M s1 (by have:=a4.o;omega) (n1) (λi _=>by rw[G.o];exact we a5.o.1 dV i) M3 a1.o W X;have c:=oh (s:=s1) (by exact a6.o) (n1);have d:=nI s1 (n1);have g:=oj s1 (n1);obtain⟨u,Y⟩:=dG (fE s1 (n1));rw[Y] at C a d g c;obtain⟨s3,U,c3⟩:=u;simp only at C a d g c;obtain⟨e3,j⟩:=fU (cM 3 (dE U));rw[dk j] at C;have c9:=cz j;have d3:=cz c;clear Y j c d g
      go_upto_region 23 with(first|(refine(C.o _ S.x).mono ?_;rintro e W ⟨rfl,hp,hf⟩;replace S:=S.call hf (λD e=>e) eQ (dR P D M s3) (λB h=>hp))|refine fO ?_|refine fu λW S=>?_)
      by_cases L:c3=0
      case neg=>
       have g8:(c3 !=0)=cx:=fK.2 L;rw[c8 L] at a;obtain rfl:=a.o;clear L
       go_wp2_with first|(refine mu ?_;exact⟨_,by rw[dk (q:=q) rfl];rfl,ir.nil _ _,S.x,S.fr⟩)|refine fO ?_|refine fu λW S=>?_
      subst L;rw[cX (λh=>h rfl)] at a;obtain rfl:=a.o;obtain⟨PX,x⟩:=yw (cM 3 (dE U))
      go_upto_region 25 with(fail)
      try simp only[By,FQ] at S
      obtain⟨TC,z⟩:=S.nm;rw[z] at S|-;clear z;refine eR S dC [⟨TC,106,3,dE U⟩,⟨H.h.s,193,51,nS y⟩,⟨w.h.s,106,3,dE q⟩] Cz λW S=>?_;refine ij 0 (bV PX) rfl (rA (λw h=>h.row 0 rfl) rfl x.o fL) ?_;refine ij 1 (bV N) rfl (rA (b:=H.h.s) (t:=193) (n:=51) (f:=nS y) (λw h=>h.row 1 rfl) rfl HN.o U2) ?_;refine ij 2 (bV A) rfl (rA (b:=w.h.s) (t:=106) (n:=3) (f:=dE q) (λw h=>h.row 2 rfl) rfl HA.o fL) ?_;refine dh 3 _ ?_;refine kK 4 λK p=>?_
      go_wp2_with fail
      refine(C9.o _).mono ?_;rintro e W ⟨v,rfl,ho,hb⟩;replace S:=S.iw hb ho rfl rfl;clear ho;refine gy p ?_;refine kK 5 λK p=>?_;refine km S 4 rfl rfl rfl x.o fL (dJ _) λW S=>?_;refine gy p ?_;refine dh 6 _ ?_;refine dh 7 _ ?_;refine qG ?_
      go_wp2_with (refine mu ?_;exact⟨_,by rw[dk (q:=U) rfl];rfl,S.o0,S.x,S.fr⟩)
     |true=>
      have a:=cz (a7.o rfl rfl);obtain rfl:=a.o;have g3:¬(cn:Int)<0:=cN
      go_upto_region 20 with(first|(first|refine jj 52 191 11 S 1 Z.o ?_)|refine je S (C4.o _) λW S=>?_|refine je S (C3.o _) λW S=>?_|refine mG (C5.o _ S.x) ?_|refine mG (C6.o _ S.x) ?_|refine fO ?_)
      obtain⟨PX,x⟩:=yw (cM 3 (dE cY))
      go_upto_region 25 with(refine fu λW S=>?_)
      try simp only[By,FQ] at S
      obtain⟨TC,z⟩:=S.nm;rw[z] at S|-;clear z;refine eR S dC [⟨TC,106,3,dE cY⟩,⟨H.h.s,193,51,nS y⟩,⟨w.h.s,106,3,dE q⟩] Cz λW S=>?_;refine ij 0 (bV PX) rfl (rA (λw h=>h.row 0 rfl) rfl x.o fL) ?_;refine ij 1 (bV N) rfl (rA (b:=H.h.s) (t:=193) (n:=51) (f:=nS y) (λw h=>h.row 1 rfl) rfl HN.o U2) ?_;refine ij 2 (bV A) rfl (rA (b:=w.h.s) (t:=106) (n:=3) (f:=dE q) (λw h=>h.row 2 rfl) rfl HA.o fL) ?_;refine dh 3 _ ?_;refine kK 4 λK p=>?_
      go_wp2_with fail
      refine(C9.o _).mono ?_;rintro e W ⟨v,rfl,ho,hb⟩;replace S:=S.iw hb ho rfl rfl;clear ho;refine gy p ?_;refine kK 5 λK p=>?_;refine km S 4 rfl rfl rfl x.o fL (dJ _) λW S=>?_;refine gy p ?_;refine dh 6 _ ?_;refine dh 7 _ ?_;refine qG ?_
      go_wp2_with (refine mu ?_;exact⟨_,by rw[dk (q:=cY) rfl];rfl,S.o0,S.x,S.fr⟩)
    )
def Kr(P D d:Nat)(s:Pl)(q:cQ)(hq:dD q)(st:Nat)(w:World)(h:fh w P D d s):
 CP_ 89 #[bW (cu ⟨P,0,cw⟩),mO q,bU ct (st:Nat)] w λe w'=>∃r,e=cj (cg #[r,bU cq (fR s q st).2.2])/\ir w' w.h.s r (fR s q st).2.1/\fh w' P D d (fR s q st).1/\Fr (cu D) [] w w':=by
 obtain⟨A,hA⟩:=fU (cM 3 (dE q));rw[dk hA];have HA:=cz hA;clear hA;have HQ:=cz hq;clear hq;have S:=St.start w (cu D) [] (dR P D d s) h;have J:=cz λw=>dk HA.o▸BM q st w;have C2:=cz λw h=>dk HA.o▸x5 P D d s q HQ.o w h;have S0:=h;clear h;go_enter func89,ntmps89;cases Q:jY q st with
 |false=>
  rw[Q] at J;rw[XD Q];go_wp2_with (first|refine je S (J.o _) λW S=>?_|go_step3|simp only[Ap,Aq]|refine fO ?_|refine fu λW S=>?_);try rw[Exit.noGoto_ret]
  go_ret2;exact⟨_,rfl,ir.nil _ _,S.x,S.fr⟩
 |true=>
  rw[Q] at J;rcases hu:dw s q with⟨s1,H,c1⟩;rw[hu] at C2;by_cases hc:c1=0
  . subst hc;rw[XE Q hu];go_wp2_with (first|refine je S (J.o _) λW S=>?_|(refine(C2.o _ S.x).mono ?_;rintro e W ⟨N,rfl,O,u,l⟩;have HN:=cz O;replace S:=S.call l (λD e=>e) eQ (dR P D d s1) (λ_ _=>u);clear u l O)|go_step3|simp only[Ap,Aq]|refine fO ?_|refine fu λW S=>?_);have S:=cz (show St w (cu D) [] _ [⟨106,3,_,1,iZ [q]⟩] _ _ from by have:=(S.Uj rfl);rw[qd];exact this);have HL:=cz λk=>yO (s:=s) (by exact S0.dev.ok) q k;go_loopw [33,10] (λi v wr=>∃k M s',k<=8/\i=bU cq (k:Nat)/\M.n<=1+9*k/\Hid (uj st ((mq H).take k) (s1,([q],0))=(s',(M,0))/\St w (cu D) [] [⟨_,191,24,eX H⟩,⟨_,106,3,dE q⟩] [⟨106,3,v,M.n,iZ M⟩] (CR P D d s') wr)) (λi _ _=>8-(intOf i).m);exact⟨0,[q],s1,cN,rfl,by simp,rfl,S.o⟩;obtain⟨k,M,s',hk,rfl,hM,hS⟩:=hrel;by_cases T:k<8
    . have n:=Mq (jU st) (s1,([q],0)) (mq H) (k:=k) (by rw[qe];exact T);rw[Jo] at n;have c:=hS.o.1;unfold uj at c;rw[c] at n;clear c;replace S:=hS.o.2;clear hS;obtain⟨p,u⟩:=dG (H k);have a6:dD p:=by have:=HL.o k;rw[hu] at this;rw[<-u];exact this
      obtain⟨C,hC⟩:=fU (cM 3 (dE p));have y:=cz λW=>(show(Instr.index 191 (bV N) (bU cq (k:Nat))).run prog W=.ok (bV C) W by rw[HN.o,hC,<-u];exact BT H k T W);rw[u] at n;have b:=cz n;have Z:=cz hC;clear hC n;have K:=cz λw=>dk Z.o▸BM p st w;have C4:=cz λw h=>dk Z.o▸x5 P D d s' p a6 w h;cases U:jY p st with
      |false=>(rw[U] at K;have o:jU st (s',(M,0)) p=(s',(M,0)):=by unfold jU;simp[U]);rw[o] at b;go_wp2_with (first|refine Kb rfl rfl y.o ?_|refine oV S rfl rfl Z.o fL rfl (by rfl) (dJ _) λW S=>?_|refine je S (K.o _) λW S=>?_|go_step3|simp only[Ap,Aq]|refine fO ?_);replace S:=cz (And.intro b.o S.pop);go_roundw;exact⟨k+1,M,s',cN,by go_num,cN,S⟩;simp[intOf];omega
      |true=>
       rw[U] at K;rcases hu2:dw s' p with⟨s2,l2,c2⟩;rw[hu2] at C4;by_cases t:c2=0
       . (subst t;have o:jU st (s',(M,0)) p=(s2,(M++p:: (mq l2).filter (jY · st),0)):=by unfold jU;simp[U,hu2]);rw[o] at b;go_wp2_with (first|refine Kb rfl rfl y.o ?_|refine je S (K.o _) λW S=>?_|(refine(C4.o _ S.x).mono ?_;rintro e W ⟨N2,rfl,f,m,l⟩;have z:=cz f;replace S:=S.call l (λD e=>e) eQ (dR P D d s2) (λ_ _=>m);clear m l f)|refine tE S 0 rfl 0 rfl rfl rfl rfl ib (dJ _) (by simp only;omega) (by unfold maxLen;simp only;omega) λg cap W S=>?_|go_step3|simp only[Ap,Aq]|refine fO ?_|refine fu λW S=>?_);(obtain⟨G,hG⟩:=fU (M++[p]);have a3:G.n=M.n+1:=by rw[hG];simp);(have S:=cz (show St w (cu D) [] _ [⟨106,3,bX (cu ⟨g,0,cw⟩) (M.n+1) cap,G.n,iZ G⟩] _ _ from by rw[a3,hG,jw,qd];exact S.pop);have x:∀F,M++p::F=G++F:=λF=>by rw[hG,xJ];rfl);rw[x] at b;clear x hG;go_loopw [10,54] (λv i wr=>∃j,j<=8/\i=bU cq (j:Nat)/\Hid (St w (cu D) [] [⟨_,191,24,eX l2⟩,⟨_,106,3,dE p⟩,⟨_,191,24,eX H⟩,⟨_,106,3,dE q⟩] [⟨106,3,v,(G++((mq l2).take j).filter (jY · st)).n,iZ (G++((mq l2).take j).filter (jY · st))⟩] (CR P D d s2) wr)) (λ_ i _=>8-(intOf i).m);exact⟨0,cN,rfl,cz (by rw[take_zero,filter_nil,wV];exact S.o)⟩;obtain⟨j,hj,rfl,hS⟩:=hrel;by_cases R:j<8
         . (have a:=zT (jY · st) (mq l2) (k:=j) (by rw[qe];exact R);rw[Jo] at a;obtain⟨r,hr⟩:=dG (l2 j);obtain⟨B,hB⟩:=fU (cM 3 (dE r));have L:=cz λW=>(show(Instr.index 191 (bV N2) (bU cq (j:Nat))).run prog W=.ok (bV B) W by rw[z.o,hB,<-hr];exact BT l2 j R W);rw[hr] at a;have HB:=cz hB;clear hB;have X:=cz λw=>dk HB.o▸BM r st w;have a4:=FR (jY · st) ((mq l2).take j);rw[lO] at a4;obtain⟨Y,I⟩:=fU (G++((mq l2).take j).filter (jY · st));have a7:Y.n<=80:=by rw[I,jv];omega);rw[<-I] at hS;replace S:=hS.o;clear hS;cases V:jY r st with|false=>rw[V] at X a;have HY:Hid (G++((mq l2).take (j+1)).filter (jY · st)=Y):=cz (by rw[a,I];simp);clear a I;go_wp2_with (first|refine Kb rfl rfl L.o ?_|refine oV S rfl rfl HB.o fL rfl (by rfl) (dJ _) λW S=>?_|refine je S (X.o _) λW S=>?_|simp only[Ap,Aq]|refine fO ?_);go_roundw;exact⟨j+1,cN,by go_num,by rw[HY.o];exact cz S.pop⟩;simp[intOf];omega|true=>rw[V] at X a;have HY:Hid (G++((mq l2).take (j+1)).filter (jY · st)=Y++[r]):=cz (by rw[a,I];simp);clear a I;go_wp2_with (first|refine Kb rfl rfl L.o ?_|refine je S (X.o _) λW S=>?_|refine tE S 0 rfl 0 rfl rfl rfl rfl ib (dJ _) (by simp only;omega) (by unfold maxLen;simp only;omega) λg cap W S=>?_|simp only[Ap,Aq]|refine fO ?_|refine fu λW S=>?_);go_roundw;exact⟨j+1,cN,by go_num,by rw[HY.o,jv,jw,qd];exact cz S.pop.pop⟩;simp[intOf];omega
         . (obtain rfl:j=8:=cN;have E:=hS.o;rw[nV (by rw[qe];exact eN _)] at E;have a2:=cz (And.intro b.o E.pop.pop);have a5:(G++(mq l2).filter (jY · st)).n<=1+9*(k+1):=by have:=FR (jY · st) (mq l2);rw[qe] at this;rw[jv];omega);clear hS E;go_wp2_with (simp only[Ap,Aq]);go_roundw;exact⟨k+1,_,s2,cN,by go_num,a5,a2⟩;simp[intOf];omega
       . (have g:(c2 !=0)=cx:=by simpa using t);(have o:jU st (s',(M,0)) p=(s2,([],c2)):=by unfold jU;simp[U,hu2,t]);rw[o] at b;go_wp2_with (first|refine Kb rfl rfl y.o ?_|refine oV S rfl rfl Z.o fL rfl (by rfl) (dJ _) λW S=>?_|refine je S (K.o _) λW S=>?_|(refine(C4.o _ S.x).mono ?_;rintro e W ⟨N2,rfl,f,m,l⟩;have z:=cz f;replace S:=S.call l (λD e=>e) eQ (dR P D d s2) (λ_ _=>m);clear m l f)|refine oV S rfl rfl z.o Cy rfl (by rfl) (nR _) λW S=>?_|go_step3|simp only[Ap,Aq]|refine fO ?_);(try rw[Exit.noGoto_ret]);(go_ret2;have hr:uj st (mq H) (s1,([q],0))=(s2,([],c2)):=by unfold uj;rw[Uk _ _ _ (k+1),b.o];exact aa7 t);rw[hr];exact⟨_,rfl,ir.nil _ _,S.x,S.fr⟩
    . obtain rfl:k=8:=cN;have c:=hS.o.1;rw[nV (by rw[qe];exact eN _)] at c;have a1:=cz c;clear c;replace S:=hS.o.2;clear hS;go_wp2_with (first|go_step3|simp only[Ap,Aq]);(try rw[Exit.noGoto_ret]);go_ret2;rw[a1.o];exact⟨_,rfl,S.o0,S.x,S.fr⟩
  . (rw[Ul Q hu hc];have g:(c1 !=0)=cx:=by simpa using hc);go_wp2_with (first|refine je S (J.o _) λW S=>?_|(refine(C2.o _ S.x).mono ?_;rintro e W ⟨N,rfl,O,u,l⟩;have HN:=cz O;replace S:=S.call l (λD e=>e) eQ (dR P D d s1) (λ_ _=>u);clear u l O)|go_step3|simp only[Ap,Aq]|refine fO ?_|refine fu λW S=>?_);go_ret2;exact⟨_,rfl,ir.nil _ _,S.x,S.fr⟩
theorem EL{f:β->α->β}{b:β}(h:∀x,f b x=b)(l:List α):l.foldl f b=b:=by induction l<;>grind
def Gv{f:β->α->β}{a b:β}{l:List α}(c:(l.take k).foldl f a=b)(h:∀x,f b x=b):l.foldl f a=b:=by
 conv=>lhs;rw[<-Ac k l]
 rw[BC,c,EL h]
theorem wv{f:β->α->β}{a b:β}{l:List α}{x:α}(c:(l.take k).foldl f a=b)(d:l[k]?=cu x):(l.take (k+1)).foldl f a=f b x:=by grind[take_add_one]
def zY(l:Nat->cQ)(m:Nat):Bool:=(range 8).all λi=>decide (l i≠cY)==decide (i<m)
theorem X7{l:Nat->cQ}(a:i<8)(h:(decide (l i≠cY)==decide (i<m))=cy):zY l m=cy:=by grind[zY]
theorem U5{l:Nat->cQ}(h:∀i,i<8->(decide (l i≠cY)==decide (i<m))=cx):zY l m=cx:=by grind[zY]
def fQ(l:List cQ):Prop:=∀q∈l,dD q
theorem dU:fQ []:=λ_ h=>absurd h jL
def fX(want:Nat)(a:Pl×(List cQ×Int))(q:cQ):Pl×(List cQ×Int):=
 if a.2.2≠0 then a else
 if(dw a.1 q).2.2≠0 then((dw a.1 q).1,([],(dw a.1 q).2.2)) else
 if zY (dw a.1 q).2.1 (min 8 (want-a.2.1.n))=cx then((dw a.1 q).1,(a.2.1++(mq (dw a.1 q).2.1).take (min 8 (want-a.2.1.n)),0))
 else((dw a.1 q).1,([],91))
def fY(s:Pl)(l:List cQ)(want:Nat):Pl×(List cQ×Int):=l.foldl (fX want) (s,([],0))
theorem MY(hc:c≠0)(q:cQ):fX want (s,([],c)) q=(s,([],c)):=by grind[fX]
theorem zk{l M:List cQ}(a:(l.take k).foldl (fX want) (s,([],0))=(s1,(M,0)))(b:l[k]?=cu q)(d:fX want (s1,(M,0)) q=(s2,([],c)))(hc:c≠0):fY s l want=(s2,([],c)):=
 Gv (k:=k+1) ((wv a b).trans d) (MY hc)
theorem X8(b y:Nat)(e:y<=8)(W:cS):(Instr.sliceAt 191 (bW (cu ⟨b,0,cw⟩)) cw (cu (.int cq y)) cw).run prog W=.ok (bX (cu ⟨b,0,cw⟩) y 8) W:=by have d:prog.underlying 191=cu (.array 8 106):=Gd;obtain⟨f,a,c⟩:=wF ku;simp_all[Instr.sliceBound,asIntOf,Instr.sliceAt,Instr.sureAddr,Instr.sliceBounds,Addr.add]
theorem EM(h:cL w b t n f)(c:xs.n=m*z)(a:m<=cap)(hc:cap<=maxLen)(d:∀j u,xs[j]?=cu u->j<n/\f j=u):dg w t z (bX (cu ⟨b,0,cw⟩) m cap) m xs:=
 ⟨c,_,_,ae,a,hc,λ_=>⟨b,0,_,_,ae,h,λj u e=>by
  simp_all[dy]⟩⟩
theorem X9(l:Nat->cQ)(e:m<=8):∀j u,(iZ ((mq l).take m))[j]?=cu u->j<24/\eX l j=u:=by
 intro j u h;have d:((mq l).take m).n=m:=by grind[qe]
 have c:j<m*3:=by grind[yP]
 have a:j/3<((mq l).take m).n:=cN;have b:=kG ((mq l).take m) a (A:=cM 3 (dE (l (j/3)))) (by
  grind[Jo]) (j%3) cN
 rw[show j/3*3+j%3=j by omega,h,dy,c8 cN] at b;grind[eX]
def OX(P D H:Nat)(s:Pl)(l:List cQ)(v:c7)(b5:l.n<=1000000)(hl:∀q∈l,dD q)(want:Nat)(hw:want<=1000000)(w:cS)(h:fh w P D H s)(R:ly w v l):
 CP_ 193 #[bW (cu ⟨P,0,cw⟩),v,bU cq want] w λe w'=>∃r,e=cj (cg #[r,bU cq (fY s l want).2.2])/\ir w' w.h.s r (fY s l want).2.1/\fQ (fY s l want).2.1/\fh w' P D H (fY s l want).1/\Fr (cu D) [] w w':=by
 obtain⟨ao,cap,rfl,b1,X⟩:=dQ R;have RL:=cz R;have X:=cz X;have HQ:=cz hl;have S:=St.start w (cu D) [] (dR P D H s) h;clear R hl h;go_enter func193,ntmps193;go_wp2_with (refine Kd S (by':=24) ib rfl rfl cN xY rfl rfl λg W S=>?_);go_loopw [21,8] (λi u wr=>∃k M s' ua uc,k<=l.n/\i=bU cq k/\M.n<=want/\u=bX ua M.n uc/\Hid ((l.take k).foldl (fX want) (s,([],0))=(s',(M,0))/\(∀q∈M,dD q)/\St w (cu D) [] [] [⟨106,3,bX ua M.n uc,M.n,iZ M⟩] (CR P D H s') wr)) (λi _ _=>l.n-(intOf i).m);exact⟨0,[],s,_,_,cN,rfl,by simp,rfl,cz ⟨rfl,λ_ h=>absurd h jL,S⟩⟩;clear S;obtain⟨k,M,s',ua,uc,hk,rfl,hM,rfl,hS⟩:=hrel;by_cases z:k<l.n
 . (obtain⟨b,o,rfl⟩:=X.o cN;obtain⟨q,O⟩:=dG (l[k]);have n:l[k]?=cu q:=by rw[jG z,O]);(obtain⟨AQ,V⟩:=fU (cM 3 (dE q));have G:=cz (kG l z (A:=AQ) (by rw[O];exact V));have a9:dD q:=HQ.o q (O▸mP _);have d:=cz V;obtain⟨S,S2⟩:Hid (St w (cu D) [] [] [⟨106,3,bX ua M.n uc,M.n,iZ M⟩] (CR P D H s') wr)/\Hid ((l.take k).foldl (fX want) (s,([],0))=(s',(M,0))):=⟨cz hS.o.2.2,cz hS.o.1⟩;have U:=cz hS.o.2.1;have C:=Dt S.o.x.dev.ok q;have S:=S.o;clear hS O V;have C1:=cz λW h=>dk d.o▸zX P D H s' q a9 W h;have a:dw s' q=if(gz s' q).2.2≠0 then((gz s' q).1,(mX,(gz s' q).2.2)) else match pY (gz s' q).2.1 with|none=>((gz s' q).1,(mX,91))|some l=>((gz s' q).1,(l,0)):=rfl);rcases hg:gz s' q with⟨s1,p,c1⟩;rw[hg] at C1 C a;simp only at C1 C a;clear hg;by_cases hc:c1=0
   . subst hc;rw[cX eQ] at a;cases hn:pY p with
     |none=>rw[hn] at a;have c:fY s l want=(s1,([],91)):=zk S2.o n (by unfold fX;rw[a];simp) kM;have f:=cz c;have I:=cz λB(t:B=cM 128 (di p))W=>BU p C B t W;rw[hn] at I;have x:gq 51 (cw:Option (Nat->cQ))=51:=rfl;rw[x] at I;clear c a n hn x;go_wp2_with (first|refine CB (RL.o.fr S.fr (.inr rfl) rfl) z (vx d) G.o ?_|refine oV S rfl rfl d.o fL rfl nF (dJ _) λW S=>?_|(refine(C1.o _ S.x).mono ?_;rintro e W ⟨B,rfl,t,L,K⟩;have T:=cz t;replace S:=S.call K (λD e=>e) eQ (dR P D H s1) (λ_ _=>L);clear L K t)|refine oV S rfl rfl T.o Dx rfl nF (jP _) λW S=>?_|(refine(I.o _ T.o _).mono ?_;rintro e W ⟨N,rfl,hN,hb⟩;have HN:=cz hN;replace S:=S.cP hb;clear hb hN)|refine oV S rfl rfl HN.o Cy rfl nF (nR _) λW S=>?_|refine fO ?_);go_ret2;rw[f.o];exact⟨_,rfl,ir.nil _ _,dU,S.x,S.fr⟩
     |some l1=>
      rw[hn] at a;have I:=cz λB(t:B=cM 128 (di p))W=>BU p C B t W;rw[hn] at I;have x:gq 51 (cu l1)=0:=rfl;rw[x] at I;simp only[kL] at I;clear x;obtain⟨m,hm⟩:=fU (min 8 (want-M.n));have c:fX want (s',(M,0)) q=if zY l1 m=cx then(s1,(M++(mq l1).take m,0)) else(s1,([],91)):=by unfold fX;rw[a,hm];simp
      have f:=cz c;have a2:=cz n;have a7:=cz (zS C hn);have Z:m<=8:=cN;have b6:min (8:Int) ((want:Int)-(M.n:Int))=(m:Int):=cN;have HM:=cz hm;clear a hn c n hm
      go_wp2_with first|refine CB (RL.o.fr S.fr (.inr rfl) rfl) z (vx d) G.o ?_|refine oV S rfl rfl d.o fL rfl nF (dJ _) λW S=>?_|(refine(C1.o _ S.x).mono ?_;rintro e W ⟨B,rfl,t,L,K⟩;have T:=cz t;replace S:=S.call K (λD e=>e) eQ (dR P D H s1) (λ_ _=>L);clear L K t)|refine oV S rfl rfl T.o Dx rfl nF (jP _) λW S=>?_|(refine(I.o _ T.o _).mono ?_;rintro e W ⟨N,rfl,hN,hb⟩;have HN:=cz hN;replace S:=S.cP hb;clear hb hN)|refine oV S rfl rfl HN.o Cy rfl nF (nR _) λW S=>?_|refine fO ?_
      have b2:=S2
      go_loopw [47] (λi wr=>∃j:Nat,j<=8/\i=bU cq j/\Hid ((∀r,r<j->(decide (l1 r≠cY)==decide (r<m))=cx)/\St w (cu D) [] [⟨_,191,24,eX l1⟩,⟨_,36,128,di p⟩,⟨_,106,3,dE q⟩] [⟨106,3,bX ua M.n uc,M.n,iZ M⟩] (CR P D H s1) wr)) (λi _=>8-(intOf i).m)
      case atStart=>exact⟨0,cN,rfl,cz ⟨λr h=>by omega,S⟩⟩
      case round=>
       clear S;obtain⟨j,hj,rfl,hS⟩:=hrel;by_cases a3:j<8
       . obtain⟨r,hr⟩:=dG (l1 j);obtain⟨E,hE⟩:=fU (cM 3 (dE r));have a5:=cz λW=>(show(Instr.index 191 (bV N) (bU cq j)).run prog W=.ok (bV E) W by rw[HN.o,hE,<-hr];exact BT l1 j a3 W);have HE:=cz hE;clear hE;have a4:=cz hS.o.1;have S:=hS.o.2;clear hS;obtain⟨bq,Y⟩:=dG (decide (r=cY));have b7:∀W,(binOp .neq 106 (bV E) (bV #[Value.int cq 0,bU ct 0,bU .u32 0])).run prog W=.ok (bZ !bq) W:=λW=>by
          have:=F7 r cY bq Y W;rw[dk HE.o] at this;exact this
         have J:Hid (decide (l1 j≠cY)= !bq):=cz (by rw[hr,<-Y];simp);clear hr Y;cases bq<;>by_cases b4:(j:Int)<(m:Int)
         all_goals(
         have b3:=cz (show decide (j<m)=decide ((j:Int)<(m:Int)) from by simp)
         go_wp2_with first|refine Kb rfl rfl a5.o ?_|refine oV S rfl rfl HE.o fL rfl nF (dJ _) λW S=>?_|refine fO ?_
         first
          |(go_ret2;rw[zk S2.o a2.o (by rw[f.o,X7 a3 (by rw[J.o];by_cases h9:j<m<;>simp[h9]<;>omega)];rfl) kM];exact⟨_,rfl,ir.nil _ _,dU,S.x,S.fr⟩)
          |(go_roundw
            case rel=>
             refine⟨j+1,cN,by go_num,cz ⟨λq O=>?_,S.pop⟩⟩;rcases Df.1 O with h|h
             . exact a4.o q h
             . rw[h,J.o];by_cases h9:j<m<;>simp[h9]<;>omega
            case measure=>simp[intOf];omega)
         )
       . obtain rfl:j=8:=cN;have Q:=U5 hS.o.1;have S:=hS.o.2;have F:=f.o;rw[c8 Q] at F;have a6:=cz (wv S2.o a2.o |>.trans F);have a:((mq l1).take m).n=m:=by rw[lO,qe];omega
         have a8:M.n+m<=want:=by have:=HM.o;omega
         clear hS Q F
         go_wp2_with first|((with_reducible refine Zo 61 191 13 ?_);refine nH rfl 191 (.tmp 13) cw (cu (.tmp 60)) cw rfl _ (X8 _ m Z _) ?_)|(refine Gm S 0 rfl (by':=24) rfl rfl (EM S.k0 (by rw[yP,a]) Z xY (X9 l1 Z)) ib (oO _) CU xY ?_;clear S;intro v' W S)
         have HF:Hid (∃va vc,v'=bX va (M.n+m) vc):=cz (dx S.o0);go_roundw
         case rel=>
          obtain⟨va,vc,rfl⟩:=HF.o;refine⟨k+1,M++(mq l1).take m,s1,va,vc,cN,by go_num,by rw[jv,a];exact a8,by rw[jv,a],cz ⟨a6.o,λq O=>?_,?_⟩⟩
          . rcases gH.1 O with h|h
            . exact U.o q h
            . obtain⟨r,_,rfl⟩:=gT.1 (lP h);exact a7.o r
          rw[jv,a,jw];exact S.pop.pop.pop
         case measure=>exact qN
   . (have c:fY s l want=(s1,([],c1)):=by rw[c8 hc] at a;exact zk S2.o n (by unfold fX;rw[a];simp[hc]) hc);have f:=cz c;have g1:(c1 !=0)=cx:=fK.2 hc;have HC:=cz hc;clear c a hc n;go_wp2_with (first|refine CB (RL.o.fr S.fr (.inr rfl) rfl) z (vx d) G.o ?_|refine oV S rfl rfl d.o fL rfl nF (dJ _) λW S=>?_|(refine(C1.o _ S.x).mono ?_;rintro e W ⟨B,rfl,t,L,K⟩;have T:=cz t;replace S:=S.call K (λD e=>e) eQ (dR P D H s1) (λ_ _=>L);clear L K t)|refine oV S rfl rfl T.o Dx rfl nF (jP _) λW S=>?_|refine fO ?_);go_ret2;rw[f.o];exact⟨_,rfl,ir.nil _ _,dU,S.x,S.fr⟩
 . obtain rfl:k=l.n:=cN;have y:=hS.o.1;rw[qp] at y;have a1:=cz (show fY s l want=(s',(M,0)) from y);have U:=cz hS.o.2.1;have S:=hS.o.2.2;clear hS y;go_wp2;go_ret2;rw[a1.o];exact⟨_,rfl,S.o0,U.o,S.x,S.fr⟩
def jW(a:Pl×(cV×Int))(q:cQ):Pl×(cV×Int):=
 if a.2.2≠0 then a else
 if(gz a.1 q).2.2≠0 then((gz a.1 q).1,([],(gz a.1 q).2.2)) else((gz a.1 q).1,(a.2.1++(gz a.1 q).2.1,0))
def pG(s:Pl)(l:List cQ):Pl×(cV×Int):=l.foldl jW (s,([],0))
def fc(s:Pl)(l:List cQ)(n:Nat):Pl×(cV×Int):=
 if(pG s l).2.2≠0 then((pG s l).1,([],(pG s l).2.2)) else
 if((pG s l).2.1.drop n).all (λc=>decide (c=0))=cx then((pG s l).1,((pG s l).2.1.take n,0)) else((pG s l).1,([],91))
theorem OY(hc:c≠0)(q:cQ):jW (s,([],c)) q=(s,([],c)):=by grind[jW]
def U6{l:List cQ}{M:cV}(a:(l.take k).foldl jW (s,([],0))=(s1,(M,0)))(b:l[k]?=cu q)(d:jW (s1,(M,0)) q=(s2,([],c)))(hc:c≠0):pG s l=(s2,([],c)):=
 Gv (k:=k+1) ((wv a b).trans d) (OY hc)
structure Ib(w:cS)(base:Nat)(v:c7)(l:cV):Prop where
 sl:dg w 5 1 v l.n (eo l)
 new:0<l.n->∀b,v.ownBlock=cu b->base<=b
 lt:∀x∈l,x<256
def Ib.nil(w:cS)(base:Nat):Ib w base (bX cw 0 0) []:=⟨dg.nil _ _ _,λh=>absurd h (ug _),λ_ h=>absurd h jL⟩
theorem dg.cut{c:Nat}(h:dg w e z (bX ao n c) n xs)(k:i<=n):dg w e z (bX ao i i) i (xs.take (i*z)):=by obtain⟨d,b,cap,a,f,g,j⟩:=h;simp only[lX] at a;obtain⟨rfl,-,rfl⟩:=a;refine⟨by simp_all,ao,i,ae,eN _,cN,λh=>?_⟩;grind
def ael{a:Option Addr}{c e d:Nat}(h:(Value.slice a n c).ownBlock=cu b):(Value.slice a e d).ownBlock=cu b:=by cases a<;>exact h
theorem abC(h:Gp P t z)(ao:Option Addr)(n c y:Nat)(a:y<=c)(W:cS):(Instr.sliceAt t (bX ao n c) cw (cu (.int cq y)) (cu (.int cq y))).run P W=.ok (bX ao y y) W:=by rw[yZ h,run_slice_hm W t ao n c h.1 cq cq (y:Nat) (y:Nat) cN cN cN,h.2];simp_all[sliced,Addr.add]
theorem Ar(l m:cV):eo (l++m)=eo l++eo m:=by grind[eo]
theorem aiG{s:cV}(h:cL w E 36 128 (di s))(a:kb s):dg w 36 1 (bX (cu ⟨E,0,cw⟩) 128 128) 128 (eo s):=by have b:=(lM.sec h a).1;grind[dg,eo]
theorem Sa(P D y:Nat)(s:Pl)(l:List cQ)(v:c7)(c3:l.n<=100000)(hl:fQ l)(n:Nat)(hn:n<=l.n*128)(w:cS)(h:fh w P D y s)(R:ly w v l):
 CP_ 194 #[bW (cu ⟨P,0,cw⟩),v,bU cq n] w λe w'=>∃r,e=cj (cg #[r,bU cq (fc s l n).2.2])/\Ib w' w.h.s r (fc s l n).2.1/\fh w' P D y (fc s l n).1/\Fr (cu D) [] w w':=by
 obtain⟨ao,cap,rfl,b6,Y⟩:=dQ R;have RL:=cz R;have Y:=cz Y;have HQ:=cz hl;have S:=St.start w (cu D) [] (dR P D y s) h;clear R hl h;have w1:IntKind.i64.wrap ((l.n:Int)*128)=((l.n*128:Nat):Int):=by rw[kX _ cN];omega
 go_enter func194,ntmps194;go_wp2_with (refine Kd S (by':=1) (n:=l.n*128) B7 rfl rfl cN xY rfl rfl λg W S=>?_);go_loopw [21,8] (λi u wr=>∃k M s' L G,k<=l.n/\i=bU cq k/\M.n=k*128/\u=bX L (k*128) G/\Hid ((l.take k).foldl jW (s,([],0))=(s',(M,0))/\(∀x∈M,x<256)/\St w (cu D) [] [] [⟨5,1,bX L (k*128) G,k*128,eo M⟩] (CR P D y s') wr)) (λi _ _=>l.n-(intOf i).m);exact⟨0,[],s,_,_,cN,rfl,by simp,by rw[yn],cz ⟨rfl,λ_ h=>absurd h jL,by rw[yn];exact S⟩⟩;clear S;obtain⟨k,M,s',L,G,hk,rfl,hM,rfl,hS⟩:=hrel;by_cases z:k<l.n
 . (obtain⟨b,o,rfl⟩:=Y.o cN;obtain⟨q,hq⟩:=dG (l[k]);have F:l[k]?=cu q:=by rw[jG z,hq]);(obtain⟨AQ,V⟩:=fU (cM 3 (dE q));have K:=cz (kG l z (A:=AQ) (by rw[hq];exact V));have b5:dD q:=HQ.o q (hq▸mP _);have f:=cz V;have S2:=cz hS.o.1;have Q:=cz hS.o.2.1;have S:=hS.o.2.2;have m:=cz hM;have C:=Dt S.x.dev.ok q;clear hS hq V hM;have C1:=cz λW h=>dk f.o▸zX P D y s' q b5 W h;have d:jW (s',(M,0)) q=if(gz s' q).2.2≠0 then((gz s' q).1,([],(gz s' q).2.2)) else((gz s' q).1,(M++(gz s' q).2.1,0)):=by unfold jW;simp);rcases hg:gz s' q with⟨s1,a7,c1⟩;rw[hg] at C1 C d;simp only at C1 C d;clear hg;by_cases hc:c1=0
   . subst hc;rw[cX eQ] at d;have a8:=cz ((wv S2.o F).trans d);have T:=cz C;have a9:=cz λW E(h:cL W E 36 128 (di a7))=>aiG h T.o;clear d F C;go_wp2_with (first|refine CB (RL.o.fr S.fr (.inr rfl) rfl) z (vx f) K.o ?_|refine oV S rfl rfl f.o fL rfl nF (dJ _) λW S=>?_|(refine(C1.o _ S.x).mono ?_;rintro e W ⟨B,rfl,hB,hp,hf⟩;have HB:=cz hB;replace S:=S.call hf (λD e=>e) eQ (dR P D y s1) (λ_ _=>hp);clear hB)|refine oV S rfl rfl HB.o Dx rfl nF (jP _) λW S=>?_|((with_reducible refine Zo 35 36 11 ?_);refine nH rfl 36 (.tmp 11) cw cw cw rfl _ (aaP _ _) ?_)|((with_reducible refine Uh 36 34 35 ?_);refine Gm S 0 rfl (by':=1) rfl rfl (a9.o _ _ S.k0) B7 (F5 _) CU xY ?_;clear S;intro v' W S)|refine fO ?_);have HF:Hid (∃va vc,v'=bX va (k*128+128) vc):=cz (dx S.o0);go_roundw;obtain⟨va,vc,rfl⟩:=HF.o;refine⟨k+1,M++a7,s1,va,vc,cN,by go_num,by rw[jv,m.o,T.o.1];omega,by rw[succ_mul],cz ⟨a8.o,λx hx=>(gH.1 hx).elim (Q.o x) (T.o.2 x),?_⟩⟩;rw[succ_mul,Ar];exact S.pop.pop;exact qN
   . (have a:pG s l=(s1,([],c1)):=by rw[c8 hc] at d;exact U6 S2.o F d hc);(have J:fc s l n=(s1,([],c1)):=by unfold fc;rw[a];simp[hc]);have p:=cz J;have g1:(c1 !=0)=cx:=fK.2 hc;have HC:=cz hc;clear a d hc F J;go_wp2_with (first|refine CB (RL.o.fr S.fr (.inr rfl) rfl) z (vx f) K.o ?_|refine oV S rfl rfl f.o fL rfl nF (dJ _) λW S=>?_|(refine(C1.o _ S.x).mono ?_;rintro e W ⟨B,rfl,hB,hp,hf⟩;have HB:=cz hB;replace S:=S.call hf (λD e=>e) eQ (dR P D y s1) (λ_ _=>hp);clear hB)|refine oV S rfl rfl HB.o Dx rfl nF (jP _) λW S=>?_|refine fO ?_);go_ret2;rw[p.o];exact⟨_,rfl,Ib.nil _ _,S.x,S.fr⟩
 . (obtain rfl:k=l.n:=cN;have t:=hS.o.1;rw[qp] at t;have a4:=cz (show pG s l=(s',(M,0)) from t);have Q:=cz hS.o.2.1;have S:=hS.o.2.2;have m:=cz hM;have I:fc s l n=if(M.drop n).all (λc=>decide (c=0))=cx then(s',(M.take n,0)) else(s',([],91)):=by unfold fc;rw[a4.o];simp);(have O:=cz I;clear hS t I hM;obtain⟨N,hN⟩:=dG (l.n*128);rw[hN] at hn m S;rw[hN];have b7:((l.n:Nat):Int)*128=(N:Int):=cN;obtain⟨da,a2⟩:=yw (lz L G n 1);have X:∀W,St w (cu D) [] [] [⟨5,1,bX L N G,N,eo M⟩] (CR P D y s') W->dg W 5 1 (bX da (N-n) (G-n)) (N-n) (eo (M.drop n)):=λW S=>by have U:=S.q0.CG hn;rw[sL,xt,<-a2.o] at U;exact U);(have a5:=cz X;have H:0<N-n->∃b o,da=s_ b o:=by obtain⟨_,_,he,_,h2⟩:=dQ (X _ S);simp only[lX] at he;rw[he.1];exact h2);(have a3:=cz H;have b1:(M.drop n).n=N-n:=by rw[uf,m.o]);clear X H;go_wp2_with (refine y8 vg rfl rfl hn ?_;rw[<-a2.o]);obtain⟨Z,hZ⟩:=dG (M.drop n);rw[hZ] at O a5 b1;go_loopw [42] (λi wr=>∃j:Nat,j<=N-n/\i=bU cq j/\Hid ((∀r c,r<j->Z[r]?=cu c->c=0)/\St w (cu D) [] [] [⟨5,1,bX L N G,N,eo M⟩] (CR P D y s') wr)) (λi _=>(N-n)-(intOf i).m);exact⟨0,cN,rfl,cz ⟨λr c h=>by omega,S⟩⟩;clear S;obtain⟨j,hj,rfl,hS⟩:=hrel;by_cases b9:j<N-n
   . obtain⟨b,o,rfl⟩:=a3.o cN;have b3:j<Z.n:=cN;obtain⟨c,hc⟩:∃c,Z[j]?=cu c:=⟨_,jG b3⟩;have a6:=cz hS.o.1;have S:=hS.o.2;clear hS;have b2:=(a5.o _ S).cellAt cN (show(eo Z)[j]?=cu (.int .u8 c) from by unfold eo;rw[rK,hc];rfl);have HC:=cz hc;clear hc;have b8:(j:Int)<((N-n:Nat):Int):=cN;by_cases a1:c=0
     . have g:((c:Nat):Int)=0:=cN;subst a1;go_wp2;go_roundw;refine⟨j+1,cN,by go_num,cz ⟨λr c hr hc=>?_,S⟩⟩;rcases Df.1 hr with h|h;exact a6.o r c h hc;rw[h,HC.o] at hc;exact(wW hc).symm;exact qN
     . (have g:(((c:Nat):Int) !=0)=cx:=by rw[fK];omega);(have a:fc s l n=(s',([],91)):=by rw[O.o,cX];intro U;have h8:=rJ.1 U c (lu HC.o);exact a1 (by simpa using h8));have p:=cz a;clear a a1;go_wp2;go_ret2;rw[p.o];exact⟨_,rfl,Ib.nil _ _,S.x,S.fr⟩
   . (obtain rfl:j=N-n:=cN;have a:fc s l n=(s',(M.take n,0)):=by rw[O.o,c8];rw[rJ];intro c hc;obtain⟨i,hi,rfl⟩:=xz.1 hc;simpa using hS.o.1 i Z[i] cN (jG hi));(have p:=cz a;have S:=hS.o.2;clear hS a;have b4:n<=G:=by obtain⟨_,_,he,c2,_⟩:=dQ S.q0;grind);go_wp2_with (refine nH rfl 22 (.tmp 49) cw (cu (.tmp 50)) (cu (.tmp 51)) rfl _ (abC vg L N G n b4 _) ?_);go_ret2;rw[p.o];refine⟨bX L n n,rfl,⟨?_,λ_ b hb=>?_,λx hx=>Q.o x (lP hx)⟩,S.x,S.fr⟩;have U:=S.q0.cut hn;rw[sL,ux] at U;rw[show(M.take n).n=n by rw[lO,m.o];omega];exact U;exact(S.o0.lt b (ael hb)).1
end
theorem MZ(f s:Nat):(j0 f s)[0]?=cu s:=by cases f<;>grind[j0]
theorem Ya(f:Nat):∀s,1<=s->s<=8^f->(j0 f s).getLast?=cu 1:=by
 induction f with
 |zero=>
  intro s a b;obtain rfl:s=1:=by(have:8^0=1:=rfl);omega
  rfl
 |succ f ih=>
  intro s a b;unfold j0;split;next h=>(have c:8^(f+1)=8*8^f:=by rw[Nat.pow_succ,Nat.mul_comm]);rw[getLast?_cons,ih ((s+7)/8) cN cN];rfl
  obtain rfl:s=1:=cN;rfl
theorem Yb(f:Nat):∀s i x y,(j0 f s)[i]?=cu x->(j0 f s)[i+1]?=cu y->x<=8*y:=by
 induction f with
 |zero=>grind[j0]
 |succ f ih=>
  intro s i x y a b;unfold j0 at a b;split at a;next h=>rw[c8 h] at b;grind[MZ]
  grind
theorem OZ{a:Pl×(List cQ×Int)}(h:(fX want a q).2.2=0):a.2.2=0/\(fX want a q).2.1.n=a.2.1.n+min 8 (want-a.2.1.n):=by unfold fX at h|-;by_cases b:a.2.2≠0;grind;rw[cX b] at h|-;by_cases c:(dw a.1 q).2.2≠0;grind;rw[cX c] at h|-;refine⟨cN,?_⟩;split;grind[qe];grind
theorem Qj(want:Nat):∀(l:List cQ)(a:Pl×(List cQ×Int)),(l.foldl (fX want) a).2.2=0->a.2.1.n<=want->a.2.2=0/\(l.foldl (fX want) a).2.1.n=min (a.2.1.n+8*l.n) want
 | [],a,h,hw=>⟨h,by simp;omega⟩
 |q::l,a,h,hw=>by
  rw[zC] at h|-;by_cases hc:(fX want a q).2.2=0
  . obtain⟨d,b⟩:=OZ hc;obtain⟨_,e⟩:=Qj want l _ h (by rw[b];omega);exact⟨d,by rw[e,b,lq];omega⟩
  . rcases hr:fX want a q with⟨s,m,c⟩;rw[hr] at h hc
    simp_all[EL,fX]
theorem Fp{l M:List cQ}(h:fY s l want=(s',(M,0))):M.n=min (8*l.n) want:=by have:=(Qj want l (s,([],0)) (by grind[fY]) (gG _)).2;grind[fY]
def ji(a:Pl×(List cQ×List cQ×Int))(want:Nat):Pl×(List cQ×List cQ×Int):=
 if a.2.2.2≠0 then a else
 if(fY a.1 a.2.1 want).2.2≠0 then((fY a.1 a.2.1 want).1,([],[],(fY a.1 a.2.1 want).2.2))
 else((fY a.1 a.2.1 want).1,((fY a.1 a.2.1 want).2.1,a.2.2.1++(fY a.1 a.2.1 want).2.1,0))
theorem O0(hc:c≠0)(n:Nat):ji (s,([],[],c)) n=(s,([],[],c)):=by grind[ji]
def qT(n:Int):cV:=(kQ n).dropLast.reverse
def eP(s:Pl)(cO:cQ)(n:Int):Pl×(cV×List cQ×Int):=
 if kQ n=[]∨cO=cY then(s,([],[],121)) else
 let r:=(qT n).foldl ji (s,([cO],[cO],0))
 if r.2.2.2≠0 then(r.1,([],[],r.2.2.2)) else
 let t:=fc r.1 r.2.1 n.m
 if t.2.2≠0 then(t.1,([],[],t.2.2)) else(t.1,(t.2.1,r.2.2.1,0))
theorem abD{n:Int}(a:j<(qT n).n):(qT n)[j]?=(kQ n)[(kQ n).n-2-j]?:=by unfold qT at a|-;grind
theorem Qk(n:Int):(qT n).n=(kQ n).n-1:=by grind[qT]
section
end
section
attribute[local irreducible]wpList Code.wp Calls Oper.wp wpAnyH
theorem x6(P D I:Nat)(s:Pl)(cO:cQ)(hr:dD cO)(n:Int)(w:cS)(h:fh w P D I s):
 CP_ 147 #[bW (cu ⟨P,0,cw⟩),mO cO,bU cq n] w λe w'=>∃r q,e=cj (cg #[r,q,bU cq (eP s cO n).2.2.2])/\Ib w' w.h.s r (eP s cO n).2.1/\ir w' w.h.s q (eP s cO n).2.2.1/\fQ (eP s cO n).2.2.1/\fh w' P D I (eP s cO n).1/\Fr (cu D) [] w w':=by
 obtain⟨A,hA⟩:=fU (cM 3 (dE cO));rw[dk hA];have HA:=cz hA;have C1:=cz λw=>MR n w;have S:=St.start w (cu D) [] (dR P D I s) h;clear hA;obtain⟨a,l⟩:=dG (kQ n);rw[l] at C1;go_enter func147,ntmps147;by_cases h0:a=[]
 . have d:eP s cO n=(s,([],[],121)):=by unfold eP;rw[c8 (.inl (by rw[l];exact h0))]
   subst h0;have C:=cz d;clear d
   go_wp2_with first|(refine(C1.o _).mono ?_;rintro e W ⟨r,rfl,ho,J⟩;have T:=cz (dx ho);have N:=(S.iw J ho rfl rfl).UL (dg.j8 ((S.iw J ho rfl rfl).uV (k:=0) rfl)) (λ_=>rfl) rfl rfl;have S:=N;obtain⟨ra,rc,rfl⟩:=T.o)|refine fu λW S=>?_
   go_ret3;rw[C.o];exact⟨_,_,rfl,Ib.nil _ _,ir.nil _ _,dU,S.x.1,S.fr⟩
 have c9:1<=n/\n<=65535:=by
  unfold kQ at l;split at l
  . exact absurd l.symm h0
  . omega
 obtain⟨k,rfl⟩:∃k:Nat,n=k:=⟨n.m,cN⟩;obtain⟨s0,c1⟩:=dG ((k+127)/128);have L:a=j0 10 s0:=by rw[<-l];unfold kQ;rw[cX cN,<-c1];rfl
 have G:a[0]?=cu s0:=by rw[L];exact MZ _ _
 have a1:a.getLast?=cu 1:=by rw[L];exact Ya _ _ cN cN
 have H:∀i x y,a[i]?=cu x->a[i+1]?=cu y->x<=8*y:=by rw[L];exact Yb _ _
 have a9:∀x∈a,x<=512:=by rw[<-l];exact Bb _
 have d1:a.n<=11:=by rw[<-l];exact zj _
 have c2:0<a.n:=Bw.2 h0;have X:=cz H;have U:=cz G;have a3:=cz a9;have z:a[a.n-1]?=cu 1:=by rw[<-a1,getLast?_eq_getElem?]
 have V:=cz z;have H0:=cz h0;clear L G H a9 h0 z;obtain⟨bq,Z⟩:=dG (decide (cO=cY));have c4:∀W,(binOp .eql 106 (bV A) (bV #[Value.int cq 0,bU ct 0,bU .u32 0])).run prog W=.ok (bZ bq) W:=λW=>by
  have:=F6 cO cY bq Z W;rw[dk HA.o] at this;exact this
 have g0:((a.n:Int)==0)=cy:=by rw[lr];omega
 cases bq with
 |true=>
  have d:eP s cO k=(s,([],[],121)):=by unfold eP;rw[c8 (.inr (mj Z))]
  have C:=cz d;clear d
  go_wp2_with first|refine jj 22 106 4 S 0 HA.o ?_|(refine(C1.o _).mono ?_;rintro e W ⟨r,rfl,ho,J⟩;have T:=cz (dx ho);have N:=(S.iw J ho rfl rfl).UL (dg.j8 ((S.iw J ho rfl rfl).uV (k:=0) rfl)) (λ_=>rfl) rfl rfl;have S:=N;obtain⟨ra,rc,rfl⟩:=T.o)|(refine mf dC ?_;refine BZ Mw ?_)|refine fu λW S=>?_
  go_ret3;rw[C.o];exact⟨_,_,rfl,Ib.nil _ _,ir.nil _ _,dU,S.x.1,S.fr⟩
 |false=>
  have b8:cO≠cY:=ym Z;have d:eP s cO k=(let r:=(qT k).foldl ji (s,([cO],[cO],0));if r.2.2.2≠0 then(r.1,([],[],r.2.2.2)) else let t:=fc r.1 r.2.1 k;if t.2.2≠0 then(t.1,([],[],t.2.2)) else(t.1,(t.2.1,r.2.2.1,0))):=by
   unfold eP;rw[l,cX (by intro h;rcases h with h|h;exact H0.o h;exact b8 h)];rfl
  have C:=cz d;clear d
  go_wp2_with first|(first|refine jj 22 106 4 S 0 HA.o ?_)|(refine(C1.o _).mono ?_;rintro e W ⟨r,rfl,ho,J⟩;have T:=cz (dx ho);have N:=(S.iw J ho rfl rfl).UL (dg.j8 ((S.iw J ho rfl rfl).uV (k:=0) rfl)) (λ_=>rfl) rfl rfl;have S:=N;obtain⟨ra,rc,rfl⟩:=T.o)|(refine mf dC ?_;refine BZ Mw ?_)|refine fO ?_|refine fu λW S=>?_
  have S2:=(S.Uj rfl).Uj rfl;have S3:=S2.UL (dg.j8 (S2.uV (k:=0) rfl)) (λ_=>rfl) rfl rfl;rw[show(cM 3 (dE cO)).t=iZ [cO] from(qd cO).symm] at S3
  go_loopw [12,10,11] (λi u v wr=>∃j s' f E la lc aa ac,j<=a.n-1/\i=bU cq ((a.n:Int)-2-(j:Nat))/\u=bX la f.n lc/\v=bX aa E.n ac/\Hid (((qT k).take j).foldl ji (s,([cO],[cO],0))=(s',(f,E,0))/\a[a.n-1-j]?=cu f.n/\fQ f/\fQ E/\E.n<=1+j*512/\
   St w (cu D) [] [⟨w.h.s,106,3,dE cO⟩] [⟨106,3,bX aa E.n ac,E.n,iZ E⟩] (λB w=>(CR P D I s' B w/\yQ 3 1 (bX ra a.n rc) a.n (qI a) B w)/\yQ 106 3 (bX la f.n lc) f.n (iZ f) B w) wr)) (λi _ _ _=>(intOf i+1).m)
  case atStart=>exact⟨0,s,[cO],[cO],_,_,_,_,gG _,by simp,rfl,rfl,cz ⟨rfl,V.o,λq hq=>by rw[fS.1 hq];exact hr,λq hq=>by rw[fS.1 hq];exact hr,eN _,S3⟩⟩
  case round=>
   obtain⟨j,s',f,E,la,lc,aa,ac,hj,rfl,rfl,rfl,hS⟩:=hrel;by_cases c6:j<a.n-1
   . have b2:a.n-2-j<a.n:=cN;obtain⟨y,hy⟩:∃y,a[a.n-2-j]?=cu y:=⟨_,jG b2⟩;have d3:y<=8*f.n:=X.o (a.n-2-j) y f.n hy (by rw[show a.n-2-j+1=a.n-1-j by omega];exact hS.o.2.1);have d2:y<=512:=a3.o y (lu hy);have c5:f.n<=512:=a3.o _ (lu hS.o.2.1);have hF:=cz hS.o.1;have b6:=cz hS.o.2.2.1;have Y:=cz hS.o.2.2.2.1;have b7:=hS.o.2.2.2.2.1;have S:=hS.o.2.2.2.2.2;obtain⟨sb,so,b9⟩:∃b o,ra=s_ b o:=by
      obtain⟨_,_,he,_,h2⟩:=dQ S.x.1.2.1
      grind
     subst b9;have K:((a.n:Int)-2-(j:Nat))=((a.n-2-j:Nat):Int):=cN;have p:=cz λW(h:yQ 3 1 (bX (s_ sb so) a.n rc) a.n (qI a) [] W)=>h.1.cellAt c2 (show(qI a)[a.n-2-j]?=cu (.int cq y) from by unfold qI;rw[rK,hy];rfl);have C2:=cz λW h R=>OX P D I s' f (bX la f.n lc) cN b6.o y cN W h R;have d:ji (s',(f,E,0)) y=if(fY s' f y).2.2≠0 then((fY s' f y).1,([],[],(fY s' f y).2.2)) else((fY s' f y).1,((fY s' f y).2.1,E++(fY s' f y).2.1,0)):=by unfold ji;simp
     have a6:(qT k)[j]?=cu y:=by rw[abD (by rw[Qk,l];omega),l];exact hy
     rcases hg:fY s' f y with⟨s1,m,c⟩;rw[hg] at C2 d;simp only at C2 d;have a2:=cz a6;clear a6;obtain⟨ix,a7⟩:=dG (a.n-2-j);rw[a7] at K p b2;rw[K];have d4:(ix:Int)<(a.n:Int):=cN;by_cases hc:c=0
     . subst hc;rw[cX eQ] at d;have b5:=cz ((wv hF.o a2.o).trans d);have b1:m.n=y:=by rw[Fp hg];omega
       have b4:=cz b1;have c7:m.n<=512:=cN;clear d b1
       go_wp2_with first|refine zw (p.o _ ⟨S.x.1.2.1,λ_ _ _ h=>absurd h jL⟩) ?_|(refine(C2.o _ S.x.1.1 S.x.2.1).mono ?_;rintro e W ⟨r,rfl,ho,M,hp,O⟩;have T:=cz (dx ho);have a4:=cz M;have N:=S.um O (λD e=>e) eQ ((dR P D I s1).still (fF 3 1 (bX (s_ sb so) a.n rc) a.n (qI a) rfl rfl)) (λB h=>⟨hp,adJ h.1.2 O rfl rfl⟩) ho rfl rfl;clear M;have S:=N.UL (dg.j8 (N.uV (k:=0) rfl)) (λ_=>rfl) rfl rfl;obtain⟨ma,mc,rfl⟩:=T.o)|(refine Gm S 0 rfl (by':=24) rfl rfl S.x.2.1 ib (oO _) CU xY ?_;intro v' W S)
       have b3:Hid (∃va vc,v'=bX va (E.n+m.n) vc):=cz (dx S.o0);go_roundw
       case rel=>
        obtain⟨va,vc,rfl⟩:=b3.o;refine⟨j+1,s1,m,E++m,ma,mc,va,vc,cN,gQ (Value.int cq) cN,rfl,by rw[jv],cz ⟨b5.o,?_,a4.o,λq hq=>(gH.1 hq).elim (Y.o q) (a4.o q),by rw[jv];omega,?_⟩⟩
        . rw[show a.n-1-(j+1)=a.n-2-j by omega,hy,b4.o]
        . rw[jv,jw];exact S
       case measure=>simp[intOf]
     . have g1:(c !=0)=cx:=fK.2 hc;rw[c8 hc] at d;have Q:eP s cO k=(s1,([],[],c)):=by
        rw[C.o];have h9:(qT k).foldl ji (s,([cO],[cO],0))=(s1,([],[],c)):=Gv (k:=j+1) ((wv hF.o a2.o).trans d) (O0 hc);rw[h9];simp[hc]
       have a5:=cz Q;have HC:=cz hc;clear d Q hc
       go_wp2_with first|refine zw (p.o _ ⟨S.x.1.2.1,λ_ _ _ h=>absurd h jL⟩) ?_|(refine(C2.o _ S.x.1.1 S.x.2.1).mono ?_;rintro e W ⟨r,rfl,ho,M,hp,O⟩;replace S:=S.call O (λD e=>e) eQ (dR P D I s1) (λ_ _=>hp);clear M)
       go_ret3;rw[a5.o];exact⟨_,_,rfl,Ib.nil _ _,ir.nil _ _,dU,S.x,S.fr⟩
   . obtain rfl:j=a.n-1:=cN;have hF:=hS.o.1;rw[nV (by rw[Qk,l];omega)] at hF;have a8:f.n=s0:=by
      have h1:=hS.o.2.1;rw[show a.n-1-(a.n-1)=0 by omega,U.o] at h1;exact(wW h1).symm
     have Y:=cz hS.o.2.2.2.1;have b7:=hS.o.2.2.2.2.1;have K:((a.n:Int)-2-((a.n-1:Nat):Int))= -1:=cN;have C3:=cz λW h R=>Sa P D I s' f (bX la f.n lc) cN hS.o.2.2.1 k cN W h R;have S:=hS.o.2.2.2.2.2;have c3:=cz a8;clear a8;have g:eP s cO k=if(fc s' f k).2.2≠0 then((fc s' f k).1,([],[],(fc s' f k).2.2)) else((fc s' f k).1,((fc s' f k).2.1,E,0)):=by
      rw[C.o,hF];simp
     rcases hg:fc s' f k with⟨s1,tx,c⟩;rw[hg] at C3 g;simp only at C3 g;rw[K];by_cases hc:c=0
     . subst hc;rw[cX eQ] at g;have F:=cz g;clear g
       go_wp2_with (refine(C3.o _ S.x.1.1 S.x.2.1).mono ?_;rintro e W ⟨r,rfl,ho,hp,O⟩;have HO:=cz (And.intro ho.sl (And.intro (λ(h:0<tx.n)b J=>ik S.fr.size (ho.new h b J)) ho.lt));replace S:=S.call O (λD e=>e) eQ (dR P D I s1) (λ_ _=>hp))
       go_ret3;rw[F.o];exact⟨_,_,rfl,⟨HO.o.1,HO.o.2.1,HO.o.2.2⟩,S.o0,Y.o,S.x,S.fr⟩
     . have g1:(c !=0)=cx:=fK.2 hc;rw[c8 hc] at g;have F:=cz g;have HC:=cz hc;clear g hc
       go_wp2_with (refine(C3.o _ S.x.1.1 S.x.2.1).mono ?_;rintro e W ⟨r,rfl,ho,hp,O⟩;replace S:=S.call O (λD e=>e) eQ (dR P D I s1) (λ_ _=>hp))
       go_ret3;rw[F.o];exact⟨_,_,rfl,Ib.nil _ _,ir.nil _ _,dU,S.x,S.fr⟩
def j9(s:Pl)(a:cV):Pl×(cV×List cQ×Int):=
 match nZ (a.take 16) with
 |none=>(s,([],[],51))
 |some cO=>eP s cO ((jM (a.drop 16):Nat):Int)
theorem aj5(h:bs.n=4):sC [4] bs=cu [jM bs]:=by unfold sC;rw[c8 ⟨by decide,by rw[h];rfl⟩];have:py [4] bs=[jM (bs.take 4)]:=rfl;grind
theorem aiH(h:bs.n=4)(a:∀x∈bs,x<256):jM bs<4294967296:=by grind[EJ]
theorem U7(h:w.ownsRow base e z v (n+1) xs):∃g c,v=bX (cu ⟨g,0,cw⟩) (n+1) c:=by grind[ownsRow_succ]
def Ks(P D G:Nat)(s:Pl)(a:cV)(T:a.n=20)(k:∀x∈a,x<256)(v:c7)(w:cS)(h:fh w P D G s)(R:dg w 5 1 v 20 (eo a)):
 CP_ 149 #[bW (cu ⟨P,0,cw⟩),v] w λe w'=>∃r q,e=cj (cg #[r,q,bU cq (j9 s a).2.2.2])/\Ib w' w.h.s r (j9 s a).2.1/\ir w' w.h.s q (j9 s a).2.2.1/\fQ (j9 s a).2.2.1/\fh w' P D G (j9 s a).1/\Fr (cu D) [] w w':=by
 obtain⟨ao,cap,rfl,Z,Q⟩:=dQ R;have RL:=cz R;have S:=St.start w (cu D) [] (dR P D G s) h;have g:=cz λW u U hc=>xd u (a.take 16) W U hc;have C:=cz λv u W hv U hc=>J1 v u [4] (a.drop 16) kM W hv U hc;have t:(a.drop 16).n=4:=by rw[uf,T]
 have h4:=aiH t (λx l=>k x (mR l));rw[aj5 t] at C;have H:gq 21 (cu [jM (a.drop 16)])=0:=rfl;rw[H] at C;simp only[kL] at C;have Y:=cz (show dg w 5 1 (bX ao 16 cap) 16 (eo (a.take 16)) from by have B:=dg.take R (i:=16) cN;rwa [sL,ux] at B);obtain⟨da,E⟩:=yw (lz ao cap 16 1);have M:=cz (show dg w 5 1 (bX da 4 (cap-16)) 4 (eo (a.drop 16)) from by have B:=dg.CG R (i:=16) cN;rw[sL,xt,<-E.o] at B;exact B);have p:=cz k;have a2:=cz T;have O:=cz (show∀y∈dN [4],(Lit.int cq y).wf=cx by decide);obtain⟨o,z⟩:=dG (jM (a.drop 16));rw[z] at C h4;have c:j9 s a=match nZ (a.take 16) with|none=>(s,([],[],51))|some cO=>eP s cO ((o:Nat):Int):=by unfold j9;rw[z]
 have d:∀q,nZ (a.take 16)=cu q->dD q:=λq J=>xo (λx l=>k x (lP l)) J;clear R k T h t H z Q;go_enter func149,ntmps149;cases n:nZ (a.take 16) with
 |none=>rw[n] at g c;have f:gq 51 (cw:Option cQ)=51:=rfl;rw[f] at g;obtain⟨A,m⟩:=fU (cM 3 (dE ((cw:Option cQ).getD cY)));rw[dk m] at g;have L:=cz m;have F:=cz c;clear c f n d m;go_wp2_with (first|refine Uy vg ae ae (y:=16) cN ?_|refine je S (g.o _ _ (Y.o.fr S.fr aT rfl |>.ve (λx l=>p.o x (lP l))) ⟨_,_,_,rfl,cN⟩) λW S=>?_|refine oV S rfl rfl L.o fL rfl nF (dJ _) λW S=>?_);go_ret3;rw[F.o];exact⟨_,_,ae,Ib.nil _ _,ir.nil _ _,dU,S.x,S.fr⟩
 |some cO=>
  rw[n] at g c;have f:gq 51 (cu cO)=0:=rfl;rw[f] at g;simp only[kL] at g c;obtain⟨A,m⟩:=fU (cM 3 (dE cO));rw[dk m] at g;have V:=cz λW h=>x6 P D G s cO (d cO n) ((o:Nat):Int) W h;rw[dk m,<-c] at V;have L:=cz m;have a1:IntKind.i64.wrap ((20:Int)-16)=4:=by decide
  have a3:IntKind.i64.wrap ((o:Nat):Int)=((o:Nat):Int):=kX _ cN;clear c f n d m;go_wp2_with (first|refine Uy vg ae ae (y:=16) cN ?_|refine je S (g.o _ _ (Y.o.fr S.fr aT rfl |>.ve (λx l=>p.o x (lP l))) ⟨_,_,_,rfl,cN⟩) λW S=>?_|refine oV S rfl rfl L.o fL rfl nF (dJ _) λW S=>?_|refine mF S cq (dN [4]) qq uW cN cN rfl rfl rfl λW S=>?_|(refine y8 vg ae ae (y:=16) cN ?_;rw[<-E.o])|(refine ah (C.o _ _ _ (eU.row S.k0 ae (show(1:Nat)<=_ by omega) O.o) (M.o.fr S.fr ax ae |>.ve (λx l=>p.o x (mR l))) ⟨_,_,_,ae,cN⟩) λr W⟨ho,a⟩=>?_;obtain⟨ng,nc,rfl⟩:=U7 ho;replace S:=S.iw a ho ae ae;clear a));replace S:St w (cu D) [] _ [⟨82,1,bX (s_ ng 0) 1 nc,1,K1 [o]⟩] _ _:=S;refine eO S dC λW S=>?_;refine dh 0 _ ?_;refine dh 1 (bV A) ?_;refine dh 2 _ ?_;refine dh 3 (dF ng 0) ?_;refine ij 4 (bU ct o) ae (gW (λw h=>by obtain⟨_,S⟩:=h;have B:=S.q0.cellAt (j:=0) (u:=bU ct o) cN ae;exact B) ae gi) ?_;refine dh 5 (bU cq o) ?_;refine kK 6 λK hK=>?_;go_wp2_with fail;refine(V.o _ S.x).mono ?_;rintro e W ⟨r,q,rfl,ho,J,I,n,hf⟩;have N:=cz (And.intro ho.sl (And.intro (λh b a=>ik S.fr.size (ho.new h b a)) ho.lt));have X:=cz (And.intro (BR J S.fr.size) I);replace S:=S.call hf aw eQ (dR P D G _) (λ_ _=>n);clear n J I;refine gy hK ?_;refine dh 7 (r) ?_;refine dh 8 (q) ?_;refine dh 9 (bU cq (j9 s a).2.2.2) ?_;refine dh 10 _ ?_;refine dh 11 _ ?_;refine dh 12 _ ?_;refine qG ?_;go_wp2;go_ret3;exact⟨_,_,ae,⟨N.o.1,N.o.2.1,N.o.2.2⟩,X.o.1,X.o.2,S.x,S.fr⟩
attribute [local go_sem] Oper.semAt_some
def rF(bs:cV)(k:Nat):cV:=(bs.drop (k*128)).take 128
def ig(ee:cV)(a:Pl×(List cQ×Int))(part:cV):Pl×(List cQ×Int):=
 if a.2.2≠0 then a else
 if(eY a.1 (ee.getD a.2.1.n 0:Nat) part).2.2≠0 then((eY a.1 (ee.getD a.2.1.n 0:Nat) part).1,([],(eY a.1 (ee.getD a.2.1.n 0:Nat) part).2.2))
 else((eY a.1 (ee.getD a.2.1.n 0:Nat) part).1,(a.2.1++[(eY a.1 (ee.getD a.2.1.n 0:Nat) part).2.1],0))
def gF(s:Pl)(bs ee:cV):Pl×(List cQ×Int):=((finRange (fA bs.n 128)).map λk=>rF bs k.val).foldl (ig ee) (s,([],0))
theorem Ic{ee:cV}{s:Pl}{c:Int}(hc:c≠0)(q:cV):ig ee (s,([],c)) q=(s,([],c)):=by grind[ig]
theorem dg.part{c:Nat}(h:dg w e z (bX (cu ⟨b,o,cw⟩) n c) n xs)(f:i+y<=n):dg w e z (bX (cu ⟨b,o+i*z,cw⟩) y y) y ((xs.drop (i*z)).take (y*z)):=by obtain⟨g,d,cap,a,j,k,l⟩:=h;simp only[lX] at a;obtain⟨rfl,-,rfl⟩:=a;have p:(i+y)*z<=n*z:=I0 _ f;have m:(i+y)*z=i*z+y*z:=Nat.add_mul _ _ _;refine⟨by grind,_,y,ae,eN _,cN,λq=>?_⟩;grind
theorem aem{c:Nat}(h:lM w 5 (bX (cu ⟨b,o,cw⟩) bs.n c) bs)(d:k<fA bs.n 128):lM w 5 (uy b o 1 bs.n 128 k) (rF bs k):=by
 have f:=(sJ (m:=bs.n) (n:=128) cN).1 d;have g:(rF bs k).n=min 128 (bs.n-k*128):=by grind[rF]
 refine⟨?_,λx j=>h.2 x (mR (lP j))⟩;have a:=h.1.part (i:=k*128) (y:=min 128 (bs.n-k*128)) cN;unfold uy;rw[g];rw[sL,<-map_drop,<-map_take] at a;have e:rF bs k=(bs.drop (k*128)).take (min 128 (bs.n-k*128)*1):=by simp_all[rF]
 grind
theorem uA(s:Pl)(i:Int)(b:cV):(eY s i b).1.dv.ops<=s.dv.ops+1:=by unfold eY;split;grind;split;exact zU _ _ _;grind
theorem As(h:gU s.cR)(i:Int)(b:cV)(a:∀x∈b,x<256):dD (eY s i b).2.1:=by unfold eY;split;exact dV;next hl=>split;(next hi=>unfold kx;simp only;split;exact⟨by grind,h,Du _ (G9 cN a).2⟩;exact dV);exact dV
def O2{p:List (Fin (fA bs.n 128))}(a:p<+:finRange (fA bs.n 128))(h:(p.map λk=>rF bs k.val).foldl (ig ee) (s,([],0))=(s1,([],c)))(hc:c≠0):gF s bs ee=(s1,([],c)):=by obtain⟨r,b⟩:=a;unfold gF;rw[<-b,nM,BC,h,EL (Ic hc)]
def aen:lD prog 68:=⟨⟨_,underlying68,ae⟩,dC⟩
def Ql:lD prog 27:=⟨⟨_,underlying27,ae⟩,dC⟩
instance in82e9c :rk 27:=⟨Ql⟩
def aeo:lD prog 81:=⟨⟨_,qq,ae⟩,dC⟩
structure aep where
 a:Option Addr
 c:Nat
 s:Pl
 oq:List cQ
structure agT where
 y:aep
 code:Int
theorem U8(P D I:Nat)(s:Pl)(d3:s.dv.ops<=999000000)(bs:cV)(d6:bs.n<=100000)(v:c7)(ee:cV)(av:c7)(d4:fA bs.n 128<=ee.n)(d5:ee.n<=100000)(c1:∀x∈ee,x<=1000000)(w:cS)(h:fh w P D I s)(R:lM w 5 v bs)(RA:dg w 3 1 av ee.n (qI ee)):
 CallsIn Fence.wide 5 prog 279 #[bW (cu ⟨P,0,cw⟩),v,av] w λe w'=>∃r,e=cj (cg #[r,bU cq (gF s bs ee).2.2])/\ir w' w.h.s r (gF s bs ee).2.1/\fQ (gF s bs ee).2.1/\fh w' P D I (gF s bs ee).1/\Fr (cu D) [] w w':=by
 obtain⟨bo,O,rfl,a2,d7⟩:=dQ R.1;obtain⟨aa,p,rfl,b9,b8⟩:=dQ RA;have HR:=cz R;have b7:=cz RA;have S:=St.start w (cu D) [] (dR P D I s) h;have hN:fA bs.n 128<=100000:=cN;clear R RA h;refine callsIn_of_wp_marks func279 ae iC ?_ ae;simp only[ntmps279,Ay,lq,ue,reduceAdd,reduceSub,Az,vH,vI,vJ,pL,uG]
 gi_upto_region 0 with fail
 refine ke nF dC vy ?_
 go_wp2_with first|refine DD S (v:=dF P 0) rfl rfl rfl λW3 S=>?_|refine DD S (v:=bX aa ee.n p) rfl rfl rfl λW5 S=>?_|refine AS S zeroValue107 rfl rfl λW6 S=>?_|refine AS S zeroValue27 rfl rfl λW7 S=>?_
 gi_upto_region 1 with fail
 refine ke nF dC vy ?_
 go_wp2_with refine fu λW S=>?_
 gi_upto_region 2 with fail
 refine ke nF dC vy ?_
 go_wp2_with (refine aj (X3 bo bs.n O _) λW2 hW=>?_;have HB:=cz (DT hW);clear hW)
 gi_wp2
 replace S:St w (cu D) [] [⟨W7.h.s,107,1,λ_=>bX cw 0 0⟩,⟨W6.h.s,27,1,λ_=>bU cq 0⟩,⟨W5.h.s,107,1,λ_=>bX cw 0 0⟩,⟨W3.h.s,81,1,λ_=>bX aa ee.n p⟩,⟨w.h.s,68,1,λ_=>dF P 0⟩] [] (CR P D I s) W:=S;obtain⟨hb,Q,a7,b4,b3,d8⟩:=HB.o;obtain⟨l,c6⟩:=dG W.h.s;rw[c6] at Q a7 b4 b3|-;have c5:∀k∈ [l,l+1],(W.h.s<=k∨k<w.h.s)/\∃t,iy W2 k=cu t/\lQ t=cy/\gZ t=cy:=by
  intro k E;simp only[iX,jL,uH] at E;rcases E with rfl|rfl
  . exact⟨.inl cN,_,b4,ae,ae⟩
  . exact⟨.inl cN,_,b3,ae,ae⟩
 replace S:=(S.Jn 106 3 ae ae).UH hb c5;have c3:=S.x.2;have b5:w.h.s<=W2.h.s:=S.fr.size;have f:∀s',lN (cu D) (λB w=>CR P D I s' B w/\Tj [l,l+1] B w):=λs'=>(dR P D I s').still (kH _);have F:∀s',lT (λB w=>CR P D I s' B w/\Tj [l,l+1] B w):=λs'=>(lT.pl P D I s').and (lT.av _);obtain⟨b0,o0,T⟩:∃b o,0<bs.n->bo=s_ b o:=by
  grind
 refine wpIn_rangeFunc_ownF ae cN (gf:=292) (lb:=#[dF l 0,dF (l+1) 0]) ae iC (enters_of func292 dC ae)
  (RZ 4 l (l+1) bs.n O bo b0 o0 T a2 cN W2 Q a7) np.trans (np.wZ λk E=>let⟨_,h1,_⟩:=(c3 k E).2;iA h1) (gK _ _) (λ_=>ae)
  (λj N=>∃y:aep,Hid ((j.map λk=>rF bs k.val).foldl (ig ee) (s,([],0))=(y.s,(y.oq,0))/\y.oq.n=j.n/\y.s.dv.ops<=s.dv.ops+j.n/\fQ y.oq)/\St w (cu D) [] [⟨W7.h.s,107,1,λ_=>bX y.a y.oq.n y.c⟩,⟨W6.h.s,27,1,λ_=>bU cq 0⟩,⟨W5.h.s,107,1,λ_=>bX cw 0 0⟩,⟨W3.h.s,81,1,λ_=>bX aa ee.n p⟩,⟨w.h.s,68,1,λ_=>dF P 0⟩] [⟨106,3,bX y.a y.oq.n y.c,y.oq.n,iZ y.oq⟩] (λB w=>CR P D I y.s B w/\Tj [l,l+1] B w) N)
  (λc j N=>∃y:agT,Hid (c=.ret/\(j.map λk=>rF bs k.val).foldl (ig ee) (s,([],0))=(y.y.s,([],y.code))/\y.code≠0)/\St w (cu D) [] [⟨W7.h.s,107,1,λ_=>bX y.y.a y.y.oq.n y.y.c⟩,⟨W6.h.s,27,1,λ_=>bU cq y.code⟩,⟨W5.h.s,107,1,λ_=>bX cw 0 0⟩,⟨W3.h.s,81,1,λ_=>bX aa ee.n p⟩,⟨w.h.s,68,1,λ_=>dF P 0⟩] [] (λB w=>CR P D I y.y.s B w/\Tj [l,l+1] B w) N)
  (rV b5 _ _ _ _ λ_(y:aep)=>F y.s) (λc=>rV b5 _ _ _ _ λ_(y:agT)=>F y.y.s)
  ⟨⟨cw,0,s,[]⟩,cz ⟨ae,ae,eN _,dU⟩,S⟩ ?a1 ?assign ?body ?done ?stop
 case assign=>
  intro lp z N K C
  gi_wp2
  exact C
 case body=>
  clear S;rintro lp j z W0 ⟨⟨ya,yc,s',a⟩,J,S⟩ U;simp only at J S;obtain⟨G,M,a8,L⟩:=J.o;replace S:=S.eS;obtain⟨ab,ao,rfl⟩:=b8 cN;have e1:=(sJ (m:=bs.n) (n:=128) cN).1 z.isLt;obtain rfl:=T cN;obtain⟨u,Z⟩:∃u,ee[a.n]?=cu u:=⟨_,jG cN⟩;have a6:ee.getD a.n 0=u:=by grind
  have d1:=c1 u (lu Z);have a5:=cz λW(h:Fr (cu D) [] w W)=>(b7.o.fr h ax ae).cellAt (show 0<ee.n by omega) (show(qI ee)[a.n]?=cu (.int cq u) from by unfold qI;rw[rK,Z];rfl);obtain⟨pv,b2⟩:=dG (uy b0 o0 1 bs.n 128 z.val);have V:=cz λW(h:Fr (cu D) [] w W)=>(show lM W 5 pv (rF bs z.val) from by rw[<-b2];exact aem (HR.o.fr h ax ae) z.isLt);have d:ig ee (s',(a,0)) (rF bs z.val)=if(eY s' (u:Nat) (rF bs z.val)).2.2≠0 then((eY s' (u:Nat) (rF bs z.val)).1,([],(eY s' (u:Nat) (rF bs z.val)).2.2)) else((eY s' (u:Nat) (rF bs z.val)).1,(a++[(eY s' (u:Nat) (rF bs z.val)).2.1],0)):=by unfold ig;simp only[a6];simp
  have c4:∀x∈rF bs z.val,x<256:=λx hx=>HR.o.2 x (mR (lP hx));have b1:=As S.x.1.1.ok.1 (u:Nat) (rF bs z.val) c4;have a9:=uA s' (u:Nat) (rF bs z.val);have C1:=cz λW h hv=>Ao P D I s' cN (u:Nat) aW 5 pv (rF bs z.val) W h hv;rcases hg:eY s' (u:Nat) (rF bs z.val) with⟨s1,q,c⟩;rw[hg] at C1 d b1 a9;simp only at C1 d b1 a9;obtain⟨A,hA⟩:=fU (cM 3 (dE q));rw[dk hA] at C1;have HA:=cz hA;have HF:=cz G;have Y:=cz L;have b6:=cz M;have d2:(a.n:Int)<(ee.n:Int):=cN;have d9:a.n<100000:=cN;clear hg hA L Z a6 J M;rw[b2]
  gi_upto_region 4 with fail
  refine Ak nF S dC dC vy λW S=>?_;refine ij 0 (dF P 0) ae (uq S 4 (λ_ h=>h) ae 0 ae rh ae aen) ?_;refine ij 1 (bX (s_ ab ao) ee.n p) ae (uq S 3 (λ_ h=>h) ae 0 ae rh ae aeo) ?_;refine dh 2 (bX ya a.n yc) ?_;refine dh 3 (bU cq a.n) ?_;refine dh 4 (dF ab (ao+a.n)) ?_;refine ij 5 (bU cq u) ae (gW (λw h=>by obtain⟨_,S⟩:=h;exact a5.o _ S.fr) ae Dy) ?_;refine dh 6 _ ?_
  repeat' first|refine Th ?_|refine nz 8 _ (hS:=⟨_,S.pop⟩) ?_|refine nz 9 (bV A) (hS:=⟨_,S.pop⟩) ?_|refine nz 10 (bU cq c) (hS:=⟨_,S.pop⟩) ?_|refine nz 13 _ (hS:=⟨_,S.pop⟩) ?_|refine nz 8 _ ?_|refine nz 9 (bV A) ?_|refine nz 10 (bU cq c) ?_|refine Bt 7 11 (λK C=>?_) λK C=>?_|refine qf 7 λK C=>?_|refine qf 12 λK C=>?_|refine qf 11 λK C=>?_|(refine Hc S xE iU ae λW S=>?_;refine C.out _ _ ⟨_,S.pop⟩ λ_=>?_;try simp only[Ol])|(go_wp2_with fail;refine aj (C1.o _ S.x.1.1 (V.o _ S.fr)) λN⟨hp,G⟩=>?_;replace S:=S.call G aw eQ (lN.eS [l,l+1] W0 (f s1)) (λB h=>⟨⟨hp,(kH _).fr h.1.2 G⟩,Hn h.2 G⟩);refine C.out _ _ ⟨_,S.pop⟩ λ_=>?_;try simp only[Ol])|(refine km S 0 ae ae ae HA.o fL (dJ _) λW S=>?_;refine C.out _ _ ⟨_,S.pop⟩ λ_=>?_;try simp only[Ol])|(go_wp2_with fail;refine aj (C1.o _ S.x.1.1 (V.o _ S.fr)) λN⟨hp,G⟩=>?_;replace S:=S.call G aw eQ (lN.eS [l,l+1] W0 (f s1)) (λB h=>⟨⟨hp,(kH _).fr h.1.2 G⟩,Hn h.2 G⟩);refine gy C ?_)
  all_goals(
  refine cz ?_;by_cases hc:c=0
  . subst hc;rw[cX eQ] at d;have HN:=cz (show((j++[z]).map λk=>rF bs k.val).foldl (ig ee) (s,([],0))=(s1,(a++[q],0)) from by rw[nM,BC,HF.o];exact d);clear d
    gi_upto_region 7 with fail
    gi_upto_region 7 with fail
    refine ke nF dC vy ?_
    go_wp2_with first|(first|refine jl 29 107 8 S 1 0 (bX ya a.n yc) ?_)|refine tE S 0 rfl 0 rfl rfl rfl rfl ib (dJ _) CU xY λg9 c9 W S=>?_|refine vC S 2 rfl 0 rh rfl rfl rfl ox λW S=>?_|refine fO ?_|refine fu λW S=>?_
    gi_wp2
    have E:=S.kept (f s1);have S9:=E.2.2.pop.pop;refine⟨E.1,E.2.1,⟨cu ⟨g9,0,cw⟩,c9,s1,a++[q]⟩,cz ⟨HN.o,by rw[jv,jv,b6.o];rfl,by grind,λr hr=>(gH.1 hr).elim (Y.o r) (λh=>by grind)⟩,?_⟩;rw[jv,jw,qd];exact S9.xO (k:=0) ae (g:=λ_=>bX (s_ g9 0) (a.n+1) c9) λi hi=>by have hi:i<1:=hi;obtain rfl:i=0:=cN;rfl
  . have g1:(c !=0)=cx:=fK.2 hc;rw[c8 hc] at d;have HN:=cz (show((j++[z]).map λk=>rF bs k.val).foldl (ig ee) (s,([],0))=(s1,([],c)) from by rw[nM,BC,HF.o];exact d);have HC:=cz hc;clear d hc
    gi_upto_region 6 with fail
    gi_upto_region 6 with fail
    refine ke nF dC vy ?_
    go_wp2_with first|refine vC S 3 rfl 0 (v:=bX cw 0 0) rh rfl rfl rfl ox λW S=>?_|refine vC S 2 rfl 0 rh rfl rfl rfl Ql λW S=>?_
    gi_wp2
    have E:=S.kept (f s1);have S9:=E.2.2.pop.KY;refine⟨E.1,⟨⟨ya,yc,s1,a⟩,c⟩,cz ⟨ae,HN.o,HC.o⟩,?_⟩;exact(S9.xO (k:=1) ae (g:=λ_=>bU cq c) λi hi=>by have hi:i<1:=hi;obtain rfl:i=0:=cN;rfl).xO (k:=2) ae (g:=λ_=>bX cw 0 0) λi hi=>by grind
  )
 case done=>
  clear S;rintro D2 ys W0 hD rfl ⟨⟨ya,yc,s',a⟩,J,S⟩ C;simp only at J S;obtain⟨G,M,a8,L⟩:=J.o;have X:gF s bs ee=(s',(a,0)):=G;have H:=cz X;have Y:=cz L;clear M a8 L J X;replace S:=S.eS
  gi_upto_region 8 with fail
  gi_upto_region 8 with fail
  refine ke nF dC vy ?_
  go_wp2_with first|refine jl 33 107 8 S 0 0 (bX ya a.n yc) ?_|refine vC S 2 rfl 0 rh rfl rfl rfl ox λW S=>?_|refine vC S 1 rfl 0 (v:=bU cq 0) rh rfl rfl rfl Ql λW S=>?_
  gi_wp2
  have E:=S.kept (f s');refine DU E.2.2 (F s') cN (E.1.same D2 _ C ae) λN S=>?_;have a3:=S.cell (k:=2) ae (i:=0) zD;have a4:=S.cell (k:=1) ae (i:=0) zD;refine⟨cg #[bX ya a.n yc,bU cq 0],by simp[results,f279,go_sem,a3,a4],?_⟩;rw[H.o];exact⟨_,ae,S.o0,Y.o,S.x.1,S.fr⟩
 case stop=>
  clear S;rintro D2 cc j W0 hD U ⟨⟨⟨ya,yc,s1,a⟩,c2⟩,J,S⟩ C;simp only at J S;obtain⟨rfl,G,hc⟩:=J.o;have H:=cz (O2 U G hc);clear J
  gi_wp2
  refine DU S (F s1) cN C λN S=>?_;have a3:=S.cell (k:=2) ae (i:=0) zD;have a4:=S.cell (k:=1) ae (i:=0) zD;refine⟨cg #[bX cw 0 0,bU cq c2],by simp[results,f279,go_sem,a3,a4],?_⟩;rw[H.o];exact⟨_,ae,ir.nil _ _,dU,S.x.1,S.fr⟩
def Sb(P D b:Nat)(s:Pl)(a:s.dv.ops<=999000000)(bs:cV)(i:bs.n<=100000)(v:c7)(ee:cV)(c:c7)(d:fA bs.n 128<=ee.n)(f:ee.n<=100000)(g:∀x∈ee,x<=1000000)(w:cS)(h:fh w P D b s)(R:lM w 5 v bs)(j:dg w 3 1 c ee.n (qI ee)):
 CP_ 279 #[bW (cu ⟨P,0,cw⟩),v,c] w λe w'=>∃r,e=cj (cg #[r,bU cq (gF s bs ee).2.2])/\ir w' w.h.s r (gF s bs ee).2.1/\fQ (gF s bs ee).2.1/\fh w' P D b (gF s bs ee).1/\Fr (cu D) [] w w':=
 uh.1 (U8 P D b s a bs i v ee c d f g w h R j)
attribute [local go_sem] Oper.semAt_some
def oJ(ps:List cQ)(k:Nat):List cQ:=(ps.drop (k*8)).take 8
def gX(ee:cV)(a:Pl×(List cQ×Int))(part:List cQ):Pl×(List cQ×Int):=
 if a.2.2≠0 then a else
 match mW (λi=>part.getD i cY) with
 |none=>(a.1,([],51))
 |some sec=>
  if(eY a.1 (ee.getD a.2.1.n 0:Nat) sec).2.2≠0 then((eY a.1 (ee.getD a.2.1.n 0:Nat) sec).1,([],(eY a.1 (ee.getD a.2.1.n 0:Nat) sec).2.2))
  else((eY a.1 (ee.getD a.2.1.n 0:Nat) sec).1,(a.2.1++[(eY a.1 (ee.getD a.2.1.n 0:Nat) sec).2.1],0))
def eV(s:Pl)(ps:List cQ)(ee:cV):Pl×(List cQ×Int):=((finRange (fA ps.n 8)).map λk=>oJ ps k.val).foldl (gX ee) (s,([],0))
theorem O3(hc:c≠0)(q:List cQ):gX ee (s,([],c)) q=(s,([],c)):=by grind[gX]
def M4{bs:List cQ}{p:List (Fin (fA bs.n 8))}(a:p<+:finRange (fA bs.n 8))(h:(p.map λk=>oJ bs k.val).foldl (gX ee) (s,([],0))=(s1,([],c)))(hc:c≠0):eV s bs ee=(s1,([],c)):=by obtain⟨r,b⟩:=a;unfold eV;rw[<-b,nM,BC,h,EL (O3 hc)]
theorem abE{bs:List cQ}(a:k<fA bs.n 8):0<(oJ bs k).n/\(oJ bs k).n<=8:=by grind[sJ,oJ]
theorem Yc{bs:List cQ}(d:k<fA bs.n 8):∃a c,uy b o 3 bs.n 8 k=bX (cu ⟨a,c,cw⟩) (oJ bs k).n (oJ bs k).n:=by simp_all[oJ,uy]
def U9{bs:List cQ}(h:fQ bs)(k i:Nat):dD ((oJ bs k).getD i cY):=by rw[zB];cases a:(oJ bs k)[i]? with|none=>exact dV|some q=>exact h q (mR (lP (lu a)))
theorem aeq{c:Nat}{bs:List cQ}(h:ly w (bX (cu ⟨b,o,cw⟩) bs.n c) bs)(d:k<fA bs.n 8):ly w (uy b o 3 bs.n 8 k) (oJ bs k):=by
 have e:=(sJ (m:=bs.n) (n:=8) cN).1 d;have f:(oJ bs k).n=min 8 (bs.n-k*8):=by grind[oJ]
 have a:=dg.part (show dg w 106 3 _ bs.n (iZ bs) from h) (i:=k*8) (y:=min 8 (bs.n-k*8)) cN;unfold ly uy;rw[f];rw[EC,EA] at a;grind[oJ]
def Va(b:Nat)(W:cS):(Instr.sliceAt 191 (bW (cu ⟨b,0,cw⟩)) cw cw cw).run prog W=.ok (bX (cu ⟨b,0,cw⟩) 8 8) W:=by rfl
theorem Vb{l:List cQ}(d:l.n<=8):((cM 24 (eX λ_=>cY)).t.take 0++iZ l++(cM 24 (eX λ_=>cY)).t.drop (0+(iZ l).n)).toArray=cM 24 (eX λi=>l.getD i cY):=by apply yg;intro j;rw[dy];simp only[take_zero,pL,Lx,pM];rw[LB];by_cases h:j<(iZ l).n;rw[c8 h];rw[yP] at h;have c:j/3<l.n:=cN;have b:=kG l c (A:=cM 3 (dE l[j/3])) ae (j%3) cN;rw[show j/3*3+j%3=j by omega,dy,c8 cN] at b;rw[b,c8 cN];grind[eX];rw[cX h,getElem?_drop,Nat.add_sub_cancel' cN,nL (xs:=cM 24 _),dy];rw[yP] at h;by_cases a:j<24;rw[c8 a,c8 a];grind[eX];grind
theorem aiI{x:Nat}(S:St w0 d l L O X w)(k:Nat){f g c:Nat}{o:Option Nat}(r:L[k]?=cu ⟨b,191,24,eX λ_=>cY⟩)(R:ly w (bX (cu ⟨f,g,cw⟩) ps.n c) ps)(s:0<ps.n)(B:ps.n<=8)(D:P.underlying 107=cu (.slice 106))(m:(P.info? 106).map (·.size)=cu 3)(A:a.eval (.tmp x)=bX (cu ⟨b,0,cw⟩) 8 8)(C:a.eval (.tmp y)=bX (cu ⟨f,g,cw⟩) ps.n c)(h:∀W,St w0 d l (L.set k ⟨b,191,24,eX λi=>ps.getD i cY⟩) O X W->wpList P ops Q rest (a.put o (goInt ps.n)) W):
 wpList P ops Q (⟨o,.call {callee:=.builtin .copy,args:=#[.tmp x,.tmp y],argTypes:=#[107,107]},t2,p,af,cw⟩::rest) a w:=by
 obtain⟨t,ao,F,q,I,J,v⟩:=R;obtain⟨E,o',G,H,rfl,M,hc⟩:=v s;simp only[lX,yq,Addr.mk.injEq] at q;obtain⟨⟨rfl,rfl,-⟩,-,rfl⟩:=q;have e:=Fb (P:=P) w 107 107 t2 106 b 0 8 8 ⟨f,g,cw⟩ ps.n c (cM 24 (eX λ_=>cY)) 191 (iZ ps) 3 ps.n D m (S.pE r) jH t
  (λj u N=>by
   have n:(⟨f,g,cw⟩:Addr).add j=⟨f,g+j,cw⟩:=by grind[Addr.add]
   grind[cell_of_row]) aG (oO _)
 rw[Vb B] at e;refine mz ae λK z=>?_;unfold Oper.wp;simp only[execOp,resolve,invoke,builtin,lx,rN,nX,map_toArray,yh,map_nil,A,C,e];exact z _ _ (h _ (S.set r _))
theorem Sc(P D J:Nat)(s:Pl)(e8:s.dv.ops<=999000000)(bs:List cQ)(f2:bs.n<=100000)(e2:fQ bs)(v:c7)(ee:cV)(av:c7)(e9:fA bs.n 8<=ee.n)(f1:ee.n<=100000)(d9:∀x∈ee,x<=1000000)(w:cS)(h:fh w P D J s)(R:ly w v bs)(RA:dg w 3 1 av ee.n (qI ee)):
 CallsIn Fence.wide 5 prog 280 #[bW (cu ⟨P,0,cw⟩),v,av] w λe w'=>∃r,e=cj (cg #[r,bU cq (eV s bs ee).2.2])/\ir w' w.h.s r (eV s bs ee).2.1/\fQ (eV s bs ee).2.1/\fh w' P D J (eV s bs ee).1/\Fr (cu D) [] w w':=by
 obtain⟨bo,Y,rfl,a8,f3⟩:=dQ R;obtain⟨aa,C,rfl,d8,d7⟩:=dQ RA;have HR:=cz R;have d6:=cz RA;have S:=St.start w (cu D) [] (dR P D J s) h;have hN:fA bs.n 8<=100000:=cN;clear R RA h;refine callsIn_of_wp_marks func280 rfl iC ?_ rfl;simp only[ntmps280,Ay,lq,ue,reduceAdd,reduceSub,Az,vH,vI,vJ,pL,uG]
 gi_upto_region 0 with fail
 refine ke nF dC vy ?_
 go_wp2_with first|refine DD S (v:=dF P 0) rfl rfl rfl λW3 S=>?_|refine DD S (v:=bX aa ee.n C) rfl rfl rfl λW5 S=>?_|refine AS S zeroValue107 rfl rfl λW6 S=>?_|refine AS S zeroValue27 rfl rfl λW7 S=>?_
 gi_upto_region 1 with fail
 refine ke nF dC vy ?_
 go_wp2_with refine fu λW S=>?_
 gi_upto_region 2 with fail
 refine ke nF dC vy ?_
 go_wp2_with (refine(X4 bo bs.n Y _).mono ?_;rintro e W2 ⟨rfl,hW⟩;have HB:=cz (DT hW);clear hW)
 gi_wp2
 replace S:St w (cu D) [] [⟨W7.h.s,107,1,λ_=>bX cw 0 0⟩,⟨W6.h.s,27,1,λ_=>bU cq 0⟩,⟨W5.h.s,107,1,λ_=>bX cw 0 0⟩,⟨W3.h.s,81,1,λ_=>bX aa ee.n C⟩,⟨w.h.s,68,1,λ_=>dF P 0⟩] [] (CR P D J s) W:=S;obtain⟨hb,Z,b9,c6,c5,f4⟩:=HB.o;obtain⟨u,e4⟩:=dG W.h.s;rw[e4] at Z b9 c6 c5|-;have e3:∀k∈ [u,u+1],(W.h.s<=k∨k<w.h.s)/\∃t,iy W2 k=cu t/\lQ t=cy/\gZ t=cy:=by
  intro k E;simp only[iX,jL,uH] at E;rcases E with rfl|rfl
  . exact⟨.inl cN,_,c6,rfl,rfl⟩
  . exact⟨.inl cN,_,c5,rfl,rfl⟩
 replace S:=(S.Jn 106 3 rfl rfl).UH hb e3;have e1:=S.x.2;have d1:w.h.s<=W2.h.s:=S.fr.size;have f:∀s',lN (cu D) (λB w=>CR P D J s' B w/\Tj [u,u+1] B w):=λs'=>(dR P D J s').still (kH _);have G:∀s',lT (λB w=>CR P D J s' B w/\Tj [u,u+1] B w):=λs'=>(lT.pl P D J s').and (lT.av _);obtain⟨b0,o0,a2⟩:∃b o,0<bs.n->bo=s_ b o:=by
  grind
 refine wpIn_rangeFunc_ownF rfl cN (gf:=293) (lb:=#[dF u 0,dF (u+1) 0]) rfl iC (enters_of func293 dC rfl)
  (R3 4 u (u+1) bs.n Y bo b0 o0 a2 a8 cN W2 Z b9) np.trans (np.wZ λk E=>let⟨_,h1,_⟩:=(e1 k E).2;iA h1) (gK _ _) (λ_=>rfl)
  (λl X=>∃y:aep,Hid ((l.map λk=>oJ bs k.val).foldl (gX ee) (s,([],0))=(y.s,(y.oq,0))/\y.oq.n=l.n/\y.s.dv.ops<=s.dv.ops+l.n/\fQ y.oq)/\St w (cu D) [] [⟨W7.h.s,107,1,λ_=>bX y.a y.oq.n y.c⟩,⟨W6.h.s,27,1,λ_=>bU cq 0⟩,⟨W5.h.s,107,1,λ_=>bX cw 0 0⟩,⟨W3.h.s,81,1,λ_=>bX aa ee.n C⟩,⟨w.h.s,68,1,λ_=>dF P 0⟩] [⟨106,3,bX y.a y.oq.n y.c,y.oq.n,iZ y.oq⟩] (λB w=>CR P D J y.s B w/\Tj [u,u+1] B w) X)
  (λc l X=>∃y:agT,Hid (c=.ret/\(l.map λk=>oJ bs k.val).foldl (gX ee) (s,([],0))=(y.y.s,([],y.code))/\y.code≠0)/\St w (cu D) [] [⟨W7.h.s,107,1,λ_=>bX y.y.a y.y.oq.n y.y.c⟩,⟨W6.h.s,27,1,λ_=>bU cq y.code⟩,⟨W5.h.s,107,1,λ_=>bX cw 0 0⟩,⟨W3.h.s,81,1,λ_=>bX aa ee.n C⟩,⟨w.h.s,68,1,λ_=>dF P 0⟩] [] (λB w=>CR P D J y.y.s B w/\Tj [u,u+1] B w) X)
  (rV d1 _ _ _ _ λ_(y:aep)=>G y.s) (λc=>rV d1 _ _ _ _ λ_(y:agT)=>G y.y.s)
  ⟨⟨cw,0,s,[]⟩,cz ⟨rfl,rfl,eN _,dU⟩,S⟩ ?a1 ?assign ?body ?done ?stop
 case assign=>
  intro lp z X K j
  gi_wp2
  exact j
 case body=>
  clear S;rintro lp l z W0 ⟨⟨ya,yc,s',d⟩,M,S⟩ a3;simp only at M S;obtain⟨H,U,c1,N⟩:=M.o;replace S:=S.eS;obtain⟨ab,ao,rfl⟩:=d7 cN;have f6:=(sJ (m:=bs.n) (n:=8) cN).1 z.isLt;obtain rfl:=a2 cN;obtain⟨F,a7⟩:∃F,ee[d.n]?=cu F:=⟨_,jG cN⟩;have b7:ee.getD d.n 0=F:=by grind
  have e6:=d9 F (lu a7);have b2:=cz λW(h:Fr (cu D) [] w W)=>(d6.o.fr h (.inr rfl) rfl).cellAt (show 0<ee.n by omega) (show(qI ee)[d.n]?=cu (.int cq F) from by unfold qI;rw[rK,a7];rfl);obtain⟨pv,b5⟩:=dG (uy b0 o0 3 bs.n 8 z.val);have a4:=cz λW(h:Fr (cu D) [] w W)=>(show ly W pv (oJ bs z.val) from by rw[<-b5];exact aeq (HR.o.fr h (.inr rfl) rfl) z.isLt);have b3:=abE (bs:=bs) z.isLt;have p:∃pb po,pv=bX (s_ pb po) (oJ bs z.val).n (oJ bs z.val).n:=by rw[<-b5];exact Yc z.isLt
  have a:gX ee (s',(d,0)) (oJ bs z.val)=match mW (λi=>(oJ bs z.val).getD i cY) with|none=>(s',([],51))|some sec=>if(eY s' (F:Nat) sec).2.2≠0 then((eY s' (F:Nat) sec).1,([],(eY s' (F:Nat) sec).2.2)) else((eY s' (F:Nat) sec).1,(d++[(eY s' (F:Nat) sec).2.1],0)):=by unfold gX;simp only[b7];simp
  have b8:∀i,i<8->dD ((oJ bs z.val).getD i cY):=λi _=>U9 e2 z.val i;obtain⟨pp,Q⟩:=sV (oJ bs z.val);rw[Q.o] at a b8 a4 b3 p;obtain⟨nl,T⟩:∃nl:Nat->cQ,nl=λi=>pp.getD i cY:=⟨_,rfl⟩;have V:=cz λW=>Fc nl (by rw[T];exact b8) W;rw[<-T] at a;have d2:=cz T;obtain⟨NV,d3⟩:=yw (cM 24 (eX nl));rw[show adq nl=bV NV by rw[d3.o];rfl] at V;have HF:=cz H;have a6:=cz N;have d4:=cz U;have e7:(d.n:Int)<(ee.n:Int):=cN;have f5:d.n<100000:=cN;have d5:=cz p;clear N a7 b7 M U T p;rw[b5];obtain⟨pb,po,e5⟩:=d5.o;subst e5
  gi_upto_region 4 with fail
  gi_upto_region 4 with fail
  refine ke nF dC vy ?_
  go_wp2_with refine fu λW S=>?_
  gi_upto_region 5 with fail
  refine ke nF dC vy ?_
  go_wp2_with first|refine nH rfl 191 (.tmp 10) cw cw cw rfl _ (Va _ _) ?_|(refine aiI S 0 rfl (a4.o _ S.fr) b3.1 b3.2 underlying107 ku rfl rfl λW S=>?_;rw[<-d2.o] at S)
  cases hn:mW nl with
  |none=>
   rw[hn] at a V;simp only at a;have L:gq 51 (cw:Option cV)=51:=rfl;rw[L] at V;have HN:=cz (show((l++[z]).map λk=>oJ bs k.val).foldl (gX ee) (s,([],0))=(s',([],51)) from by rw[nM,BC,HF.o];show gX ee (s',(d,0)) (oJ bs z.val)=_;rw[Q.o];exact a);clear a hn L
   gi_upto_region 6 with fail
   gi_upto_region 6 with fail
   refine ke nF dC vy ?_
   go_wp2_with first|(refine(V.o _).mono ?_;rintro e W ⟨B,rfl,hB,hb⟩;have HB:=cz hB;replace S:=S.cP hb;clear hB)|refine oV S rfl rfl HB.o Dx rfl nF (jP _) λW S=>?_|refine fO ?_
   gi_upto_region 8 with fail
   gi_upto_region 8 with fail
   refine ke nF dC vy ?_
   go_wp2_with first|refine vC S 3 rfl 0 rh rfl rfl rfl Ql λW S=>?_|refine fu λW S=>?_
   gi_wp2
   have E:=S.kept (f s');have S9:=E.2.2.pop.pop.KY;refine⟨E.1,⟨⟨ya,yc,s',d⟩,51⟩,cz ⟨rfl,HN.o,show(51:Int)≠0 by decide⟩,?_⟩;exact(S9.xO (k:=1) rfl (g:=λ_=>bU cq 51) λi O=>by have O:i<1:=O;obtain rfl:i=0:=cN;rfl).xO (k:=2) rfl (g:=λ_=>bX cw 0 0) λi O=>by grind
  |some sec=>
   have b4:=Gh hn;rw[hn] at a V;simp only at a;have L:gq 51 (cu sec)=0:=rfl;rw[L] at V;simp only[kL] at V;have c4:=As S.x.1.1.ok.1 (F:Nat) sec b4.2;have c3:=uA s' (F:Nat) sec;have C1:=cz λW pv h hv=>Ao P D J s' cN (F:Nat) (by unfold eT;omega) 36 pv sec W h hv;rcases hg:eY s' (F:Nat) sec with⟨s1,q,c⟩;rw[hg] at C1 a c4 c3;simp only at C1 a c4 c3;obtain⟨A,hA⟩:=fU (cM 3 (dE q));rw[dk hA] at C1;have HA:=cz hA;have b6:=cz b4;clear hg hA hn L b4
   gi_upto_region 6 with fail
   gi_upto_region 6 with fail
   refine ke nF dC vy ?_
   go_wp2_with first|(refine(V.o _).mono ?_;rintro e WN ⟨B,rfl,hB,hb⟩;have HB:=cz hB;replace S:=S.cP hb;clear hB)|refine oV S rfl rfl HB.o Dx rfl nF (jP _) λW S=>?_|refine fO ?_
   gi_upto_region 9 with fail
   refine Ak nF S dC dC vy λW S=>?_;refine ij 0 (dF P 0) rfl (uq S 6 (λ_ h=>h) rfl 0 rfl rh rfl aen) ?_;refine ij 1 (bX (s_ ab ao) ee.n C) rfl (uq S 5 (λ_ h=>h) rfl 0 rfl rh rfl aeo) ?_;refine dh 2 (bX ya d.n yc) ?_;refine dh 3 (bU cq d.n) ?_;refine dh 4 (dF ab (ao+d.n)) ?_;refine ij 5 (bU cq F) rfl (gW (λw h=>by obtain⟨_,S⟩:=h;exact b2.o _ S.fr) rfl Dy) ?_;refine dh 6 (bX (s_ WN.h.s 0) 128 128) ?_;refine Zi 7 11 (λK j=>?_) λK j=>?_
   rotate_left
   focus(
    refine Hc S xE iU rfl λW S=>?_;refine j.out _ _ ⟨_,S.pop⟩ λ_=>?_
    try simp only[Ol]
    clear j K;refine kK 7 λK j=>?_
    go_wp2_with fail
    refine(C1.o _ _ S.x.1.1 (lM.sec (S.row ⟨WN.h.s,36,128,di sec⟩ (by simp only[mml,mmp])).1 b6.o)).mono ?_;rintro e X ⟨rfl,hp,H⟩;replace S:=S.call H (λD e=>e) eQ (lN.eS [u,u+1] W0 (f s1)) (λB h=>⟨⟨hp,(kH _).fr h.1.2 H⟩,Hn h.2 H⟩);refine j.out _ _ ⟨_,S.pop⟩ λ_=>?_;refine dh 8 _ (hS:=⟨_,S.pop⟩) ?_;refine dh 9 (bV A) (hS:=⟨_,S.pop⟩) ?_;refine dh 10 (bU cq c) (hS:=⟨_,S.pop⟩) ?_;refine kK 12 λK j=>?_;refine km S 0 rfl rfl rfl HA.o fL (dJ _) λW S=>?_;refine j.out _ _ ⟨_,S.pop⟩ λ_=>?_
    try simp only[Ol]
    clear j K;refine dh 13 _ (hS:=⟨_,S.pop⟩) ?_;refine qG ?_
   )
   rotate_left
   focus(
    go_wp2_with fail
    refine(C1.o _ _ S.x.1.1 (lM.sec (S.row ⟨WN.h.s,36,128,di sec⟩ (by simp only[mml,mmp])).1 b6.o)).mono ?_;rintro e X ⟨rfl,hp,H⟩;replace S:=S.call H (λD e=>e) eQ (lN.eS [u,u+1] W0 (f s1)) (λB h=>⟨⟨hp,(kH _).fr h.1.2 H⟩,Hn h.2 H⟩);refine gy j ?_;refine dh 8 _ ?_;refine dh 9 (bV A) ?_;refine dh 10 (bU cq c) ?_;refine kK 11 λK j=>?_;refine Hc S xE iU rfl λW S=>?_;refine j.out _ _ ⟨_,S.pop⟩ λ_=>?_
    try simp only[Ol]
    clear j K;refine kK 12 λK j=>?_;refine km S 0 rfl rfl rfl HA.o fL (dJ _) λW S=>?_;refine j.out _ _ ⟨_,S.pop⟩ λ_=>?_
    try simp only[Ol]
    clear j K;refine dh 13 _ (hS:=⟨_,S.pop⟩) ?_;refine qG ?_
   )
   all_goals(
   by_cases hc:c=0
   . subst hc;rw[cX eQ] at a;have HN:=cz (show((l++[z]).map λk=>oJ bs k.val).foldl (gX ee) (s,([],0))=(s1,(d++[q],0)) from by rw[nM,BC,HF.o];show gX ee (s',(d,0)) (oJ bs z.val)=_;rw[Q.o];exact a);clear a
     gi_upto_region 12 with fail
     gi_upto_region 12 with fail
     refine ke nF dC vy ?_
     go_wp2_with first|refine tE S 0 rfl 0 rfl rfl rfl rfl ib (dJ _) CU xY λg9 c9 W S=>?_|refine vC S 4 rfl 0 rh rfl rfl rfl ox λW S=>?_|refine fO ?_|refine fu λW S=>?_
     gi_wp2
     have E:=S.kept (f s1);have S9:=E.2.2.pop.pop.pop.pop;refine⟨E.1,E.2.1,⟨cu ⟨g9,0,cw⟩,c9,s1,d++[q]⟩,cz ⟨HN.o,by rw[jv,jv,d4.o];rfl,by grind,λr hr=>(gH.1 hr).elim (a6.o r) (λh=>by grind)⟩,?_⟩;rw[jv,jw,qd];exact S9.xO (k:=0) rfl (g:=λ_=>bX (s_ g9 0) (d.n+1) c9) λi O=>by have O:i<1:=O;obtain rfl:i=0:=cN;rfl
   . have g1:(c !=0)=cx:=fK.2 hc;rw[c8 hc] at a;have HN:=cz (show((l++[z]).map λk=>oJ bs k.val).foldl (gX ee) (s,([],0))=(s1,([],c)) from by rw[nM,BC,HF.o];show gX ee (s',(d,0)) (oJ bs z.val)=_;rw[Q.o];exact a);have HC:=cz hc;clear a hc
     gi_upto_region 11 with fail
     gi_upto_region 11 with fail
     refine ke nF dC vy ?_
     go_wp2_with first|refine vC S 4 rfl 0 rh rfl rfl rfl Ql λW S=>?_|refine fu λW S=>?_
     gi_wp2
     have E:=S.kept (f s1);have S9:=E.2.2.pop.pop.pop.KY;refine⟨E.1,⟨⟨ya,yc,s1,d⟩,c⟩,cz ⟨rfl,HN.o,HC.o⟩,?_⟩;exact(S9.xO (k:=1) rfl (g:=λ_=>bU cq c) λi O=>by have O:i<1:=O;obtain rfl:i=0:=cN;rfl).xO (k:=2) rfl (g:=λ_=>bX cw 0 0) λi O=>by grind
   )
 case done=>
  clear S;rintro D2 ys W0 hD rfl ⟨⟨ya,yc,s',d⟩,M,S⟩ j;simp only at M S;obtain⟨H,U,c1,N⟩:=M.o;have a5:eV s bs ee=(s',(d,0)):=H;have I:=cz a5;have a6:=cz N;clear U c1 N M a5;replace S:=S.eS
  gi_upto_region 13 with fail
  gi_upto_region 13 with fail
  refine ke nF dC vy ?_
  go_wp2_with first|refine jl 46 107 8 S 0 0 (bX ya d.n yc) ?_|refine vC S 2 rfl 0 rh rfl rfl rfl ox λW S=>?_|refine vC S 1 rfl 0 (v:=bU cq 0) rh rfl rfl rfl Ql λW S=>?_
  gi_wp2
  have E:=S.kept (f s');refine DU E.2.2 (G s') cN (E.1.same D2 _ j rfl) λX S=>?_;have a9:=S.cell (k:=2) rfl (i:=0) zD;have b1:=S.cell (k:=1) rfl (i:=0) zD;refine⟨cg #[bX ya d.n yc,bU cq 0],by simp[results,f280,go_sem,a9,b1],?_⟩;rw[I.o];exact⟨_,rfl,S.o0,a6.o,S.x.1,S.fr⟩
 case stop=>
  clear S;rintro D2 cc l W0 hD a3 ⟨⟨⟨ya,yc,s1,d⟩,c2⟩,M,S⟩ j;simp only at M S;obtain⟨rfl,H,hc⟩:=M.o;have I:=cz (M4 a3 H hc);clear M
  gi_wp2
  refine DU S (G s1) cN j λX S=>?_;have a9:=S.cell (k:=2) rfl (i:=0) zD;have b1:=S.cell (k:=1) rfl (i:=0) zD;refine⟨cg #[bX cw 0 0,bU cq c2],by simp[results,f280,go_sem,a9,b1],?_⟩;rw[I.o];exact⟨_,rfl,ir.nil _ _,dU,S.x.1,S.fr⟩
def O5(P D b:Nat)(s:Pl)(a:s.dv.ops<=999000000)(bs:List cQ)(i:bs.n<=100000)(j:fQ bs)(v:c7)(ee:cV)(c:c7)(d:fA bs.n 8<=ee.n)(f:ee.n<=100000)(g:∀x∈ee,x<=1000000)(w:cS)(h:fh w P D b s)(R:ly w v bs)(k:dg w 3 1 c ee.n (qI ee)):
 CP_ 280 #[bW (cu ⟨P,0,cw⟩),v,c] w λe w'=>∃r,e=cj (cg #[r,bU cq (eV s bs ee).2.2])/\ir w' w.h.s r (eV s bs ee).2.1/\fQ (eV s bs ee).2.1/\fh w' P D b (eV s bs ee).1/\Fr (cu D) [] w w':=
 uh.1 (Sc P D b s a bs i j v ee c d f g w h R k)
theorem Vc(ee:cV)(a:Pl×(List cQ×Int))(b:cV):(ig ee a b).1.dv.ops<=a.1.dv.ops+1:=by unfold ig;split;omega;grind[uA]
theorem Sd(ee:cV)(a:Pl×(List cQ×Int))(b:List cQ):(gX ee a b).1.dv.ops<=a.1.dv.ops+1:=by unfold gX;split;omega;split;grind;grind[uA]
theorem Bd{α β:Type}{f:Pl×β->α->Pl×β}(h:∀a x,(f a x).1.dv.ops<=a.1.dv.ops+1):∀(l:List α)(a:Pl×β),(l.foldl f a).1.dv.ops<=a.1.dv.ops+l.n
 | [],a=>eN _
 |x::l,a=>by
  rw[zC,lq];have:=Bd h l (f a x);have:=h a x;omega
theorem Ie(s:Pl)(bs ee:cV):(gF s bs ee).1.dv.ops<=s.dv.ops+fA bs.n 128:=by grind[gF,Bd,Vc]
theorem Fq(s:Pl)(ps:List cQ)(ee:cV):(eV s ps ee).1.dv.ops<=s.dv.ops+fA ps.n 8:=by grind[eV,Bd,Sd]
theorem Vd{a:Pl×(List cQ×Int)}{b:cV}(h:(ig ee a b).2.2=0):a.2.2=0/\(ig ee a b).2.1.n=a.2.1.n+1:=by unfold ig at h|-;grind
theorem Se{a:Pl×(List cQ×Int)}{b:List cQ}(h:(gX ee a b).2.2=0):a.2.2=0/\(gX ee a b).2.1.n=a.2.1.n+1:=by unfold gX at h|-;grind
def M6{α:Type}{f:Pl×(List cQ×Int)->α->Pl×(List cQ×Int)}(h:∀a x,(f a x).2.2=0->a.2.2=0/\(f a x).2.1.n=a.2.1.n+1):∀(l:List α)(a:Pl×(List cQ×Int)),(l.foldl f a).2.2=0->a.2.2=0/\(l.foldl f a).2.1.n=a.2.1.n+l.n
 | [],a,h0=>⟨h0,ae⟩
 |x::l,a,h0=>by
  rw[zC] at h0|-;obtain⟨b,c⟩:=M6 h l (f a x) h0;obtain⟨d,e⟩:=h a x b;exact⟨d,by rw[c,e,lq];omega⟩
theorem Ig(h:(gF s bs ee).2.2=0):(gF s bs ee).2.1.n=fA bs.n 128:=by unfold gF at h|-;have:=(M6 (λa x=>Vd) _ _ h).2;grind
theorem Fs(h:(eV s ps ee).2.2=0):(eV s ps ee).2.1.n=fA ps.n 8:=by unfold eV at h|-;have:=(M6 (λa x=>Se) _ _ h).2;grind
def M7{α:Type}{f:Pl×(List cQ×Int)->α->Pl×(List cQ×Int)}(h:∀a x,(f a x).2.2≠0->a.2.2≠0/\f a x=a∨(f a x).2.1=[]):∀(l:List α)(a:Pl×(List cQ×Int)),(a.2.2≠0->a.2.1=[])->(l.foldl f a).2.2≠0->(l.foldl f a).2.1=[]
 | [],a,ha,h0=>ha h0
 |x::l,a,ha,h0=>by
  rw[zC] at h0|-;exact M7 h l (f a x) (λhc=>(h a x hc).elim (λ⟨h1,h2⟩=>by rw[h2];exact ha h1) id) h0
theorem Ih(s:Pl)(bs ee:cV)(h:(gF s bs ee).2.2≠0):(gF s bs ee).2.1=[]:=by unfold gF at h|-;refine M7 (λa x hc=>?_) _ _ (λ_=>ae) h;unfold ig at hc|-;grind
theorem Ft(s:Pl)(ps:List cQ)(ee:cV)(h:(eV s ps ee).2.2≠0):(eV s ps ee).2.1=[]:=by unfold eV at h|-;refine M7 (λa x hc=>?_) _ _ (λ_=>ae) h;unfold gX at hc|-;grind
theorem tI(f s:Nat):s<=(j0 f s).sum:=by cases f<;>grind[j0]
def Sf:Gp prog 81 1:=⟨dC,λW=>by rfl⟩
def aj6:c7->Nat
 |bX _ n _=>n
 |_=>0
structure Sg(f:Nat)(a:Pl×(List cQ×Int))(left:Nat):Prop where
 ops:a.1.dv.ops+1000*f<=998030000
 ok:a.2.2=0->∃g,g<f/\left+a.2.1.n=(j0 g a.2.1.n).sum/\1<=a.2.1.n/\a.2.1.n<=512/\a.2.1.n<=8^g
 err:a.2.2≠0->a.2.1=[]
def jk:Nat->Pl×(List cQ×Int)->cV->Pl×(List cQ×Int)
 |0,a,_=>a
 |f+1,a,ee=>if a.2.2=0/\1<a.2.1.n then jk f (eV a.1 a.2.1 ee) (ee.drop (eV a.1 a.2.1 ee).2.1.n) else a
def fG(s:Pl)(bs ee:cV):Pl×(cQ×Int):=
 if jT (bs.n:Nat)=0∨ee.n≠jT (bs.n:Nat) then(s,(cY,121)) else
 let r:=jk 20 (gF s bs ee) (ee.drop (gF s bs ee).2.1.n)
 if r.2.2≠0 then(r.1,(cY,r.2.2)) else(r.1,(r.2.1.headD cY,0))
theorem Sh(s:Pl)(ps:List cQ)(ee:cV):(eV s ps ee).2.1.n<=fA ps.n 8:=by by_cases h:(eV s ps ee).2.2=0;simp_all[Fs];simp_all[Ft]
def Ii:∀(f:Nat)(a:Pl×(List cQ×Int))(ee:cV),(jk f a ee).1.dv.ops<=a.1.dv.ops+2*a.2.1.n
 |0,a,_=>xN _ _
 |f+1,a,ee=>by
  unfold jk;split
  . next h=>
    have b:=Ii f (eV a.1 a.2.1 ee) (ee.drop (eV a.1 a.2.1 ee).2.1.n);have c:=Fq a.1 a.2.1 ee;have d:=Sh a.1 a.2.1 ee;have e:fA a.2.1.n 8=(a.2.1.n+7)/8:=rfl;omega
  . omega
theorem x7(s:Pl)(bs ee:cV):(fG s bs ee).1.dv.ops<=s.dv.ops+2000:=by unfold fG;split;grind;next h=>(have g:bs.n<=65535:=by have a:jT (bs.n:Nat)≠0:=λe=>h (.inl e);unfold jT kQ at a;grind);(have b:=Ie s bs ee;have c:=Ii 20 (gF s bs ee) (ee.drop (gF s bs ee).2.1.n);have d:(gF s bs ee).2.1.n<=fA bs.n 128:=by by_cases h:(gF s bs ee).2.2=0;simp_all[Ig];simp_all[Ih]);have f:fA bs.n 128=(bs.n+127)/128:=rfl;grind
theorem Ij(P D Z:Nat)(s:Pl)(e4:s.dv.ops<=998000000)(bs:cV)(d5:bs.n<=100000)(v:c7)(ee:cV)(av:c7)(d3:ee.n<=100000)(b8:∀x∈ee,x<=1000000)(w:cS)(h:fh w P D Z s)(R:lM w 5 v bs)(RA:dg w 3 1 av ee.n (qI ee)):
 CP_ 257 #[bW (cu ⟨P,0,cw⟩),v,av] w λe w'=>∃A,e=cj (cg #[bV A,bU cq (fG s bs ee).2.2])/\A=cM 3 (dE (fG s bs ee).2.1)/\dD (fG s bs ee).2.1/\fh w' P D Z (fG s bs ee).1/\Fr (cu D) [] w w':=by
 obtain⟨bo,b7,rfl,d4,-⟩:=dQ R.1;obtain⟨aa,J,rfl,d2,-⟩:=dQ RA;have HR:=cz R;have b6:=cz RA;have S:=St.start w (cu D) [] (dR P D Z s) h;obtain⟨nd,I⟩:=sV (jT (bs.n:Nat));have C1:=cz λW=>Hw (bs.n:Nat) W;rw[I.o] at C1;clear R RA h;go_enter func257,ntmps257;by_cases G:nd=0∨ee.n≠nd
 . have C:fG s bs ee=(s,(cY,121)):=by unfold fG;rw[I.o,c8 G]
   have a7:=cz C;clear C;rcases vM nd with h0|h0;have g0:((nd:Int)==0)=cx:=by rw[wX];omega
   rotate_left
   have g0:((nd:Int)==0)=cy:=by rw[lr];omega
   have g1:(((ee.n:Nat):Int)!=((nd:Nat):Int))=cx:=by rw[fK];omega
   all_goals
    clear G
    go_wp2_with first|refine je S (C1.o _) λW S=>?_|(refine mu ?_;rw[a7.o];exact⟨_,ae,iU,dV,S.x,S.fr⟩)|refine fO ?_|refine fu λW S=>?_
 . have g0:((nd:Int)==0)=cy:=by rw[lr];omega
   have g1:(((ee.n:Nat):Int)!=((nd:Nat):Int))=cy:=by rw[vL];omega
   have e6:1<=bs.n/\bs.n<=65535:=by
    have K:jT (bs.n:Nat)≠0:=by rw[I.o];omega
    unfold jT kQ at K
    grind
   obtain⟨s0,e1⟩:=dG ((bs.n+127)/128);have a5:ee.n=(j0 10 s0).sum:=by
    have K:=I.o;unfold jT kQ at K
    grind
   have b1:fA bs.n 128=s0:=by rw[<-e1];rfl
   have a1:s0<=ee.n:=by rw[a5];exact tI 10 s0
   have C:fG s bs ee=(let r:=jk 20 (gF s bs ee) (ee.drop (gF s bs ee).2.1.n);if r.2.2≠0 then(r.1,(cY,r.2.2)) else(r.1,(r.2.1.headD cY,0))):=by
    unfold fG;rw[I.o,cX G]
   have C2:=cz λW h hr ha=>Sb P D Z s cN bs d5 (bX bo bs.n b7) ee (bX aa ee.n J) (by rw[b1];exact a1) d3 b8 W h hr ha;have n:=Ie s bs ee;have m:=Ig (s:=s) (bs:=bs) (ee:=ee);have l:=Ih s bs ee;rw[b1] at n m;rcases hg:gF s bs ee with⟨s1,t,c1⟩;rw[hg] at C2 n m l C;simp only at C2 n m l C;obtain⟨R0,b5⟩:=sV (jk 20 (s1,(t,c1)) (ee.drop t.n));rw[b5.o] at C;have a7:=cz C;have a3:t.n<=ee.n:=by
    grind
   have b3:=cz (show Sg 20 (s1,(t,c1)) (ee.n-t.n) from by
    refine⟨by simp only;omega,λhc=>?_,λhc=>l hc⟩
    grind)
   clear C a5 m l n b1 a1 G hg
   go_wp2_with first|refine je S (C1.o _) λW S=>?_|(refine ah (C2.o _ S.x (HR.o.fr S.fr ax ae) (b6.o.fr S.fr ax ae)) λr W⟨ho,T,hp,hf⟩=>?_;have HF:=cz (dx ho);have c6:=cz T;have S1:=S.um hf aw eQ (dR P D Z s1) (λB h=>hp) ho ae ae;clear S T;have S:=S1.UL (dg.j8 (S1.uV (k:=0) ae)) (λ_=>ae) ae ae;clear S1;obtain⟨ma,mc,rfl⟩:=HF.o)|refine y8 Sf ae ae a3 ?_|refine fu λW S=>?_
   have c9:Hid (dg w 3 1 (bX (lz aa J t.n 1) (ee.n-t.n) (J-t.n)) (ee.n-t.n) (qI (ee.drop t.n))):=cz (by
    have K:=dg.CG b6.o a3;rw[sL] at K;unfold qI at K|-
    simp_all)
   go_loopw [9,10,2] (λu e v wr=>∃f a p la lc H F n2,u=bX la a.2.1.n lc/\e=bU cq a.2.2/\v=bX H n2 F/\Hid (jk f a p=R0/\Sg f a n2/\p.n=n2/\n2<=100000/\(∀x∈p,x<=1000000)/\dg w 3 1 (bX H n2 F) n2 (qI p)/\fQ a.2.1/\
    St w (cu D) [] [⟨w.h.s,106,3,dE cY⟩] [] (λB w=>CR P D Z a.1 B w/\yQ 106 3 (bX la a.2.1.n lc) a.2.1.n (iZ a.2.1) B w) wr)) (λu _ _ _=>aj6 u)
   case atStart=>exact⟨20,(s1,(t,c1)),ee.drop t.n,_,_,_,_,_,ae,ae,ae,cz ⟨b5.o,b3.o,uf,cN,λx hx=>b8 x (mR hx),c9.o,c6.o,S⟩⟩
   case round=>
    clear S;obtain⟨f,a,p,la,lc,H,F,n2,rfl,rfl,rfl,hS⟩:=hrel;obtain⟨s2,E,c⟩:=a;simp only at hS|-;by_cases V:c=0/\1<E.n
    . obtain⟨rfl,N⟩:=V;have M:=hS.o.2.1;have O:=hS.o.2.2.1;obtain⟨g,d6,U,X,a8,a9⟩:=M.ok ae;simp only at U X a8 a9;obtain⟨f,rfl⟩:∃f',f=f'+1:=⟨f-1,cN⟩;obtain⟨g,rfl⟩:∃g',g=g'+1:=⟨g-1,by grind⟩;have a2:j0 (g+1) E.n=E.n::j0 g ((E.n+7)/8):=by conv=>lhs;unfold j0;rw[c8 N]
      rw[a2,sum_cons] at U;have hh:=tI g ((E.n+7)/8);have b2:fA E.n 8=(E.n+7)/8:=rfl;have Q:=M.ops;simp only at Q;have C3:=cz λW h hr(ha:dg W 3 1 (bX H n2 F) n2 (qI p))=>O5 P D Z s2 cN E cN hS.o.2.2.2.2.2.2.1 (bX la E.n lc) p (bX H n2 F) (by rw[b2,O];omega) (by rw[O];exact hS.o.2.2.2.1) hS.o.2.2.2.2.1 W h hr (by rw[O];exact ha);have n:=Fq s2 E p;have m:=Fs (s:=s2) (ps:=E) (ee:=p);have l:=Ft s2 E p;rw[b2] at n m;have d:=hS.o.1;unfold jk at d;rw[c8 ⟨ae,N⟩] at d;rcases hg:eV s2 E p with⟨s3,y,c3⟩;simp only at d;rw[hg] at C3 n m l d;simp only at C3 n m l d;have a4:y.n<=n2:=by
       grind
      have d1:(8:Nat)^(g+1)=8*8^g:=by rw[Nat.pow_succ,Nat.mul_comm]
      have a6:=cz (show Sg f (s3,(y,c3)) (n2-y.n) from by
       refine⟨by grind,λhc=>?_,λhc=>l hc⟩
       grind)
      have d8:y.n<E.n:=by
       grind
      have z:=cz d;have c2:=cz hS.o.2.2.2.2.1;have c4:=cz hS.o.2.2.2.1;have c5:=cz O;have Y:=cz hS.o.2.2.2.2.2.1;have S:=hS.o.2.2.2.2.2.2.2;have e5:(1:Int)<(E.n:Int):=cN;clear O M hS U a2 hh b2 Q n m l d hg d1
      go_wp2_with first|(refine ah (C3.o _ S.x.1 S.x.2.1 (Y.o.fr S.fr ax ae)) λr W⟨ho,T,hp,hf⟩=>?_;have HF:=cz (dx ho);have b4:=cz T;have S1:=S.um hf aw eQ (dR P D Z s3) (λB h=>hp) ho ae ae;clear S T;have S:=S1.UL (dg.j8 (S1.uV (k:=0) ae)) (λ_=>ae) ae ae;clear S1;obtain⟨e2,e3,rfl⟩:=HF.o)|refine y8 Sf ae ae a4 ?_
      go_roundw
      case rel=>
       refine⟨f,(s3,(y,c3)),p.drop y.n,e2,e3,lz H F y.n 1,F-y.n,n2-y.n,ae,ae,ae,cz ⟨z.o,a6.o,by rw[uf,c5.o],by have:=c4.o;omega,λx hx=>c2.o x (mR hx),?_,b4.o,S⟩⟩;have K:=dg.CG Y.o a4;rw[sL] at K;unfold qI at K|-;rw[<-map_drop] at K;exact K
      case measure=>exact d8
    . have L:R0=(s2,(E,c)):=by
       rw[<-hS.o.1];cases f with
       |zero=>rfl
       |succ f=>unfold jk;rw[cX V]
      have d:=a7.o;rw[L] at d;by_cases hc:c=0
      . subst hc;obtain⟨g,d6,U,X,a8,a9⟩:=hS.o.2.1.ok ae;simp only at X;have N:E.n=1:=by
         omega
        obtain⟨q,rfl⟩:=List.length_eq_one_iff.1 N;rw[cX eQ] at d;simp only[headD_cons] at d;have d9:=hS.o.2.2.2.2.2.2.1 q (nB ..);have S:=hS.o.2.2.2.2.2.2.2;obtain⟨A,hA⟩:=fU (cM 3 (dE q));have HA:=cz hA;have b9:=cz (kG [q] (i:=0) eQ (A:=A) hA);obtain⟨lb,lo,d7⟩:∃b o,la=s_ b o:=by
         obtain⟨_,_,he,_,h2⟩:=dQ S.x.2.1
         grind
        subst d7;have z:=cz d;clear hS d L hA V U X a8 a9 N
        go_wp2_with first|refine CB S.x.2.1 (j:=0) eQ (vx HA) b9.o ?_|(refine mu ?_;rw[z.o];exact⟨_,ae,ae,d9,S.x.1,S.fr⟩)|refine fu λW S=>?_
      . have g2:(c==0)=cy:=by grind
        have g3:(c !=0)=cx:=fK.2 hc;rw[c8 hc] at d;have z:=cz d;have S:=hS.o.2.2.2.2.2.2.2;have HC:=cz hc;clear hS d L V hc
        go_wp2_with first|(refine mu ?_;rw[z.o];exact⟨_,ae,iU,dV,S.x.1,S.fr⟩)|refine fO ?_|refine fu λW S=>?_
end
def knX(bs:cV)(a:cS):cV->cS->Prop:=λB w=>(∀k∈bs,k∉B/\k<w.h.s)/\∀k∈bs,w.h[k]?=a.h[k]?
theorem lN.kn(bs:cV)(i:cS)(h:lN none X):lN none (λB w=>X B w/\knX bs i B w):=
 ⟨λa c=>⟨h.cP a.1 c,λk b=>⟨(a.2.1 k b).1,pK (a.2.1 k b).2 c.size⟩,λk b=>(c.block k (a.2.1 k b).2).trans (a.2.2 k b)⟩,
  λa c=>⟨h.add a.1 c,λk b=>⟨λd=>by
   rcases iX.1 d with e|d
   . have:=(a.2.1 k b).2;omega
   . exact(a.2.1 k b).1 d,(a.2.1 k b).2⟩,a.2.2⟩,
  λa d=>⟨h.mono a.1 d,λk b=>⟨λf=>(a.2.1 k b).1 (d k f),(a.2.1 k b).2⟩,a.2.2⟩,
  λa g c m j l=>⟨h.but a.1 g c m j l,λk b=>⟨(a.2.1 k b).1,pK (a.2.1 k b).2 c.size⟩,λk b=>(c.block k (a.2.1 k b).2 (λe=>(a.2.1 k b).1 (e▸g))).trans (a.2.2 k b)⟩,
  λ_ e=>by cases e⟩
theorem St.kn(S:St w0 cw l [] [] X w)(bs:cV)(a:∀k∈bs,k<w.h.s):St w0 cw l [] [] (λB w'=>X B w'/\knX bs w B w') w:=
 ⟨S.fr,S.row,S.own,S.lo,S.nd,⟨S.x,λk b=>⟨by simp[eM],a k b⟩,λ_ _=>ae⟩,lN.kn bs w S.me⟩
def DV:c7->cV
 |bX (cu a) (_+1) _=> [a.block]
 |_=> []
theorem M8{a:Addr}{c:Nat}(h:0<n):DV (bX (cu a) n c)=[a.block]:=by obtain⟨n,rfl⟩:∃m,n=m+1:=⟨n-1,cN⟩;rfl
theorem eU.kn{k:IntKind}{l:List Int}(h:eU k w v l)(a:knX (DV v) w B w'):eU k w' v l:=by obtain⟨ao,cap,rfl,e,f,g⟩:=h;refine⟨ao,cap,ae,e,f,λc=>?_⟩;obtain⟨b,o,rfl,m,hc⟩:=g c;rw[M8 (Bw.2 c)] at a;have d:b∈ [b]:=fS.2 ae;exact⟨b,o,ae,(a.1 b d).2,λj i=>(yx (a.2 b d)).trans (hc j i)⟩
theorem aer{c:Nat}(h:0<n->∃b o,ao=cu ⟨b,o,cw⟩/\b<w.h.s):∀i∈DV (bX ao n c),i<w.h.s:=by intro i a;rcases vM n with rfl|hn;cases ao<;>cases a;obtain⟨b,o,rfl,d⟩:=h hn;rw[M8 hn] at a;grind
def eU.blk{k:IntKind}{l:List Int}(h:eU k w v l):∀i∈DV v,i<w.h.s:=by
 obtain⟨ao,cap,rfl,d,e,a⟩:=h;exact aer λc=>let⟨b,o,h5,h6,_⟩:=a (Bw.1 c);⟨b,o,h5,h6⟩
def tT.blk{l:List kV}(h:tT w v l):∀i∈DV v,i<w.h.s:=by
 obtain⟨ao,cap,rfl,d,e,a⟩:=h;exact aer λc=>let⟨b,o,h5,h6,_⟩:=a (Bw.1 c);⟨b,o,h5,h6⟩
theorem tT.kn{l:List kV}(h:tT w v l)(a:knX (DV v) w B w'):tT w' v l:=by obtain⟨ao,cap,rfl,f,g,i⟩:=h;refine⟨ao,cap,ae,f,g,λe=>?_⟩;obtain⟨b,o,rfl,k,hc⟩:=i e;rw[M8 (Bw.2 e)] at a;have c:b∈ [b]:=fS.2 ae;exact⟨b,o,ae,(a.1 b c).2,λj d=>⟨(yx (a.2 b c)).trans (hc j d).1,(yx (a.2 b c)).trans (hc j d).2.1,(yx (a.2 b c)).trans (hc j d).2.2⟩⟩
section
variable {x:Nat}
theorem aiJ(S:St w0 d l L O X w){q r:Operand}(o:P.underlying ty=cu (.slice 5))(j:(P.info? 5).map (λi=>(i.zero,i.s,i.bytes))=cu (cu (.int .u8 0),1,1))(k:a.eval q=bU cq n)(m:a.eval r=bU cq n)(u:n<=1000000)(h:∀W,St w0 d l (⟨w.h.s,5,n,di []⟩::L) O X W->wpList P ops Q rest (a.put (cu dst) (bX (cu ⟨w.h.s,0,cw⟩) n n)) W):
 wpList P ops Q (⟨cu dst,.makeSlice ty q r,t2,p,af,cw⟩::rest) a w:=by
 obtain⟨t,c,e,f,s⟩:=oH j;have b:=run_make w ty 5 t (bU .u8 0) o c e cq cq (n:Nat) (n:Nat) cN cN jH cN;simp only[uI,f,sL] at b;refine mz ae λK g=>?_;unfold Oper.wp execOp;simp only[lx,k,m,b,nX];have hc:madeCells (Value.int .u8 0).cells n=cM n (di []):=by apply yg;simp_all[dy,madeCells,Array.getElem?_range,Value.cells,di,mod_one]
 rw[hc];exact g _ _ (h _ (S.alloc 5 ae ae))
theorem aes(S:St w0 d l L O X w)(k:Nat){s:cV}{i A:dW}{o':Nat}{o:Option Nat}(q:L[k]?=cu ⟨b,5,n,di s⟩)(z:s.n=o')(R:eU .u8 w v (dN bs))(U:o'+bs.n<=n)(J:bs.n<=m)(r:P.underlying i=cu (.slice 5))(g:(P.info? 5).map (·.size)=cu 1)(C:a.eval (.tmp x)=bX (cu ⟨b,o',cw⟩) m cap)(t:a.eval (.tmp y)=v)(h:∀W,St w0 d l (L.set k ⟨b,5,n,di (s++bs)⟩) O X W->wpList P ops Q rest (a.put o (goInt bs.n)) W):
 wpList P ops Q (⟨o,.call {callee:=.builtin .copy,args:=#[.tmp x,.tmp y],argTypes:=#[i,A]},t2,p,af,cw⟩::rest) a w:=by
 subst z;obtain⟨ao,c,rfl,f,M,H⟩:=R;rw[dA] at f t;by_cases B:bs.n=0;obtain rfl:bs=[]:=yj B;refine wpList_copy_nothing ae (.tmp x) (.tmp y) i A ae 5 r g _ ao m cap _ c C t (Nat.zero_min _) (h _ ?_);have:=S.modify q (di (s++[])) (jZ.refl _ _) (by rw[wV];exact S.pE q);exact this
 . obtain⟨F,K,rfl,N,hc⟩:=H (λe=>B (by have:=gQ length e;grind[dA]));have D:Nat.min bs.n m=bs.n:=vK J;refine wpList_copy_own ae (.tmp x) (.tmp y) i A ae 5 r g b s.n m cap ⟨F,K,cw⟩ _ c C t (cM n (di s)) 5 (S.pE q) (bs.map λ(x:Nat)=>Value.int .u8 (x:Int)) jH
    (λj u T=>?_) aG (λu r=>by obtain⟨_,_,rfl⟩:=gT.1 r;rfl) ?_
   grind[Addr.add,dN];(rw[mQ];have E:((cM n (di s)).t.take s.n++(bs.map λ(x:Nat)=>Value.int .u8 (x:Int))++(cM n (di s)).t.drop (s.n+(bs.map λ(x:Nat)=>Value.int .u8 (x:Int)).n)).toArray=cM n (di (s++bs)):=by(have I:(cM n (di s)).t.n=n:=by grind[cW]);apply yg;intro j;rw[dy,Lx,xJ,LB,LB,lO,I,mQ,vK cN];by_cases G:j<s.n;simp_all[dy,di,I1];rw[cX G];by_cases f:j-s.n<bs.n;rw[c8 f,c8 cN,rK,jG f];grind[di];rw[cX f,getElem?_drop,show s.n+bs.n+(j-s.n-bs.n)=j by omega,nL (xs:=cM n _),dy];grind[di]);rw[mQ,xJ] at E;rw[E];exact h _ (S.set q _)
end
theorem Yd{s:cV}(h:s.n<=n):(cM n (di s)).t=eo (s++replicate (n-s.n) 0):=by apply xL;intro j;rw[nL,dy];unfold eo di;grind
theorem Ve(h:cL w b e n f)(a:base<=b)(c:n<=maxLen):w.ownsRow base e 1 (bX (cu ⟨b,0,cw⟩) n n) n (cM n f).t:=by refine⟨by simp_all[cW],.inr ⟨b,n,cM n f,ae,a,h,eN _,c,by simp_all[cW],?_⟩⟩;simp_all[nV,cW]
theorem M9{bs:List Int}(h:¬(bs.n%5=0/\bs.n<=20480)):AG bs=cw:=by unfold AG;grind
theorem Qm{bs:List Int}(a:k<bs.n/5)(h:okB bs k=cy):AG bs=cw:=by unfold AG;grind
theorem abF{bs:List Int}(b:bs.n%5=0)(c:bs.n<=20480)(a:∀j,j<bs.n/5->okB bs j=cx):AG bs=cu ((range (bs.n/5)).map (AE bs)):=by simp_all[AG]
theorem aet(bs:List Int)(k:Nat):(range (k+1)).map (AE bs)=(range k).map (AE bs)++[AE bs k]:=by grind[range_succ]
theorem agU{bs:List Int}(i:∀x∈bs,(Lit.int .u8 x).wf=cx)(hc:∀j(h:j<bs.n),w.cell? ⟨b,o+j,cw⟩=cu (.int .u8 bs[j]))(F:5*k+5<=bs.n):
 ∃a c d e f:Nat,(a<256/\c<256/\d<256/\e<256/\f<256)/\
  (w.cell? ⟨b,o+5*k,cw⟩=cu (.int .u8 a)/\w.cell? ⟨b,o+5*k+1,cw⟩=cu (.int .u8 c)/\w.cell? ⟨b,o+5*k+2,cw⟩=cu (.int .u8 d)/\w.cell? ⟨b,o+5*k+3,cw⟩=cu (.int .u8 e)/\w.cell? ⟨b,o+5*k+4,cw⟩=cu (.int .u8 f))/\
  AE bs k=((a:Int)==1,(c:Int)+256*(d:Int),(e:Int)+256*(f:Int))/\okB bs k=(decide (a<=1)&&kt ((c:Int)+256*(d:Int)) ((e:Int)+256*(f:Int))):=by
 have g:∀j,j<5->∃x:Nat,x<256/\w.cell? ⟨b,o+5*k+j,cw⟩=cu (.int .u8 x)/\bs.getD (5*k+j) 0=(x:Int):=by intro j E;have C:=hc (5*k+j) cN;have D:=bounds_u8 (i _ (mP (show 5*k+j<bs.n by omega)));refine⟨(bs[5*k+j]'cN).m,cN,?_,?_⟩;grind;grind
 obtain⟨a,t,l,r⟩:=g 0 cN;obtain⟨c,u,m,z⟩:=g 1 cN;obtain⟨d,l2,n,d2⟩:=g 2 cN;obtain⟨e,v,p,A⟩:=g 3 cN;obtain⟨f,y,q,B⟩:=g 4 cN;rw[xK] at l r;have s:AE bs k=((a:Int)==1,(c:Int)+256*(d:Int),(e:Int)+256*(f:Int)):=by grind[AE]
 refine⟨a,c,d,e,f,⟨t,u,l2,v,y⟩,⟨l,m,n,p,q⟩,s,?_⟩;unfold okB Wn;grind
def lenOf:c7->Nat
 |bX _ n _=>n
 |_=>0
def abG(b o n c:Nat)(d:5<=n)(hc:n<=c):∃a,(5<n->a=cu ⟨b,o+5,cw⟩)/\∀W,(Instr.slice 22 (bX (cu ⟨b,o,cw⟩) n c) (cu (.int cq 5)) cw cw).run prog W=.ok (bX a (n-5) (c-5)) W:=by refine⟨if c=5 then cu ⟨b,o,cw⟩ else(cu ⟨b,o,cw⟩:Option Addr).map (·.add (5*1)),λh=>by rw[cX cN];rfl,λW=>?_⟩;rw[run_slice_l W 22 _ n c acV cq 5 cN cN,ajD];rfl
theorem abH(b o n c:Nat)(a:5<=n)(hc:n<=c)(W:cS):(Instr.slice 22 (bX (cu ⟨b,o,cw⟩) n c) cw (cu (.int cq 5)) cw).run prog W=.ok (bX (cu ⟨b,o,cw⟩) 5 c) W:=by rw[run_slice_h W 22 _ n c acV cq 5 cN cN,ajD];simp_all[sliced,Addr.add]
def Ye{c d e f g:c7}(h:w.cell? ⟨b,o,cw⟩=cu c/\w.cell? ⟨b,o+1,cw⟩=cu d/\w.cell? ⟨b,o+2,cw⟩=cu e/\w.cell? ⟨b,o+3,cw⟩=cu f/\w.cell? ⟨b,o+4,cw⟩=cu g)(a:b<w.h.s)(hbel:dS w w'):
 w'.cell? ⟨b,o,cw⟩=cu c/\w'.cell? ⟨b,o+1,cw⟩=cu d/\w'.cell? ⟨b,o+2,cw⟩=cu e/\w'.cell? ⟨b,o+3,cw⟩=cu f/\w'.cell? ⟨b,o+4,cw⟩=cu g:=
 ⟨(hbel.cell (p:=⟨b,_,cw⟩) a).trans h.1,(hbel.cell (p:=⟨b,_,cw⟩) a).trans h.2.1,(hbel.cell (p:=⟨b,_,cw⟩) a).trans h.2.2.1,(hbel.cell (p:=⟨b,_,cw⟩) a).trans h.2.2.2.1,(hbel.cell (p:=⟨b,_,cw⟩) a).trans h.2.2.2.2⟩
def Jy(w:cS)(bs:List Int)(k:Nat)(a:Option Addr):Prop:=
 5*k<bs.n->∃b o,a=cu ⟨b,o+5*k,cw⟩/\b<w.h.s/\∀j(h:j<bs.n),w.cell? ⟨b,o+j,cw⟩=cu (.int .u8 bs[j])
theorem Vf{bs:List Int}(a:bs≠ []->∃b o,ao=cu ⟨b,o,cw⟩/\b<w.h.s/\∀j(h:j<bs.n),w.cell? ⟨b,o+j,cw⟩=cu (.int .u8 bs[j])):Jy w bs 0 ao:=by grind[Jy]
theorem Vg{bs:List Int}(d:n+5*k=bs.n)(c:b<w.h.s)(hc:∀j(h:j<bs.n),w.cell? ⟨b,o+j,cw⟩=cu (.int .u8 bs[j]))(a:5<n->a'=cu ⟨b,o+5*k+5,cw⟩):Jy w bs (k+1) a':=by grind[Jy]
section
attribute[local irreducible]wpList Code.wp Calls Oper.wp wpAnyH
theorem aeu(u:c7)(bs:List Int)(w:cS)(hu:eU .u8 w u bs)(D:yC u):
 CP_ 203 #[u] w λe w'=>∃r,e=cj (cg #[r,bU cq (PH (AG bs))])/\tT w' r ((AG bs).getD [])/\dS w w':=by
 obtain⟨i0,hi,d5,Y,d6⟩:=oH Pw;obtain⟨ao,cap,rfl,f2,d2,F⟩:=hu;have D:bs.n<=cap:=by obtain⟨a,n,c,h,hn⟩:=D;grind
 have HU:=cz F;clear F;have e3:=cz d2;clear d2;obtain⟨S,hS⟩:=fU (AG bs);rw[<-hS];have b3:=gK w.h.s w;by_cases T:bs.n%5=0
 case neg=>
  have HN:Hid (S=cw):=by unfold Hid;rw[hS,M9 (λh=>T h.1)]
  have hq:((bs.n:Int)%5 !=0)=cx:=by rw[fK];omega
  clear T;go_enter func203,ntmps203;go_wp2;refine iI (v:=cg #[bX cw 0 0,bU cq 81]) (by simp[results,results203,go_sem]) ae ⟨_,by rw[HN.o];rfl,by rw[HN.o];exact tU _,b3⟩
 case pos=>
 have hq:((bs.n:Int)%5 !=0)=cy:=by grind
 by_cases G:¬bs.n<=20480
 . (have HN:Hid (S=cw):=by unfold Hid;rw[hS,M9 (λh=>G h.2)]);have hl:(20480:Int)<(bs.n:Int):=cN;clear T;go_enter func203,ntmps203;go_wp2;refine iI (v:=cg #[bX cw 0 0,bU cq 81]) (by simp[results,results203,go_sem]) ae ⟨_,by rw[HN.o];rfl,by rw[HN.o];exact tU _,b3⟩
 have e9:bs.n<=20480:=cN;have hl:¬(20480:Int)<(bs.n:Int):=cN;clear G;obtain⟨K,hK⟩:=fU (bs.n/5);have HK:=cz hK;have b6:5*K=bs.n:=cN;have a1:=cz b6;clear b6;have e5:(bs.n:Int)/5=(K:Int):=cN;have f7:K<=4096:=cN;clear hK;have HM:=cz T;clear T;go_enter func203,ntmps203;go_wp2_with (refine LO (o:=⟨cu 20,_,_,_,_,_⟩) _ ae _ _ 294 ae w.h.s 334 i0 (bV #[bZ cy,bU cq 0,bU cq 0]) 3 underlying294 hi d5 Y cq cq _ K ae ae amk (by rw[d6];omega) aK (eN _) ?_;intro w2 J f);have b4:dS w w2:=(gK _ _).grown f (eN _) (λk e=>by cases e);clear f e5
 go_loopw [0,4] (λvb v wr=>∃(k n c:Nat)(a:Option Addr),k<=K/\vb=bX a n c/\n+5*k=bs.n/\n<=c/\Jy w bs k a/\wr.ownsRow w.h.s 334 3 v ((range k).map (AE bs)).n (kW ((range k).map (AE bs)))/\Hid (∀j,j<k->okB bs j=cx)/\dS w wr)
  (λvb _ _=>lenOf vb)
 exact⟨0,bs.n,cap,ao,gG _,ae,ae,D,Vf HU.o,J,λj h=>absurd h (vz _),b4⟩;clear J b4;obtain⟨k,n,c,a,hk,rfl,hn,c6,c4,l,a2,hbel⟩:=hrel;have d9:=cz c4;clear c4;have g5:=hbel.size;by_cases g2:0<n
 . (have c3:k<K:=by have:=a1.o;omega);(have c5:5<=n:=by have:=a1.o;omega);(obtain⟨b,o,rfl,a4,d⟩:=d9.o cN;obtain⟨Z,x1,x2,x3,x4,⟨l0,l1,l2,l3,l4⟩,c1,hd,U⟩:=agU e3.o d (k:=k) cN;obtain⟨a',b8,q⟩:=abG b (o+5*k) n c c5 c6;have a8:Hid (Jy w bs (k+1) a'):=Vg hn a4 d b8;have HN:=cz hn;clear hn;clear b8 d;have z:=cz q;clear q;have d7:=cz c1;clear c1;have HD:=cz hd;clear hd;have b2:=cz U;clear U;have g6:=abH b (o+5*k) n c c5 c6;have f9:(0:Int)<=5:=by decide);have g1:(5:Int)<=(c:Int):=cN;have c2:5<=c:=cN;have hX:Z<256/\x1<256/\x2<256/\x3<256/\x4<256:=⟨l0,l1,l2,l3,l4⟩;have HX:=cz hX;clear hX;go_wp2_with fail
   go_region_held3 (λ_=>True) (trivial)
    (first|(go_at_call 245;refine(LN _).mono ?_;rintro e w5 ⟨b5,rfl,d1,-,t⟩)|(go_at_call 29;refine(af9 _ _ _ _ Z x1 x2 x3 x4 HX.o c2 _ d1 ?_ ?_).mono ?_;(exact Ye d7.o a4 (Below.step hbel.drew hbel.drew.s t));(exact pK a4 (Below.step hbel.drew hbel.drew.s t).s);rintro e N ⟨g,f4,rfl,⟨e0,e1,e2⟩,hg,f8,b9⟩))
   have A:dS w N:=Below.step (Below.step hbel.drew hbel.drew.s t) (Below.step hbel.drew hbel.drew.s t).s b9;have V:N.ownsRow w.h.s 334 3 u4 _ _:=l9 (l9 l.drew t) b9;clear t d1 l hbel;by_cases g9:1<Z
   . (have y:Hid (S=cw):=by unfold Hid;rw[hS];exact Qm (by rw[<-HK.o];exact c3) (by rw[b2.o,jC cN];rfl));have d3:(1:Int)<(Z:Int):=cN;clear z;go_wp2;refine iI (v:=cg #[bX cw 0 0,bU cq 81]) (by simp[results,results203,go_sem]) ae ⟨_,by rw[y.o];rfl,by rw[y.o];exact tU _,A⟩
   (have d3:¬(1:Int)<(Z:Int):=cN;have d4:decide (Z<=1)=cx:=gI cN;have f6:=cz d4;clear d4;obtain⟨tb,f1⟩:=dG (((Z:Int)==1));obtain⟨s,hs⟩:=dG ((x1:Int)+256*(x2:Int));obtain⟨m,T⟩:=dG ((x3:Int)+256*(x4:Int));have g4:0<=s/\s<65536:=cN;have g3:0<=m/\m<65536:=cN;have d8:Hid (AE bs k=(tb,s,m)):=by simp_all);(have a9:Hid (okB bs k=kt s m):=by simp_all);rw[hs] at e1;rw[T] at e2;clear hs T;have c8:=World.new_ne N ⟨g,0,cw⟩ e0;have g8:IntKind.i64.wrap s=s:=kX _ cN;have g7:IntKind.i64.wrap m=m:=kX _ cN;go_wp2_with fail;go_region_held3 (λW=>W.cell? ⟨g,0,cw⟩=cu (.int ct (Z:Int))/\W.cell? ⟨g,1,cw⟩=cu (.int ct s)/\W.cell? ⟨g,2,cw⟩=cu (.int ct m)) (go_keep) (fail);(obtain⟨Q,B⟩:=fU ((N.alloc (.cells #[bZ tb,bU cq s,bU cq m] 334)).drew);have p0:Q.cell? ⟨N.h.s,0,cw⟩=cu (.bool tb):=by simp_all);(have p1:Q.cell? ⟨N.h.s,1,cw⟩=cu (.int cq s):=by simp_all);(have p2:Q.cell? ⟨N.h.s,2,cw⟩=cu (.int cq m):=by simp_all);(have c9:Q.h.s=N.h.s+1:=by rw[B];simp);(have a3:dS w Q:=by rw[B];exact(A.alloc A.s _).drew);have I:=(V.alloc (.cells #[bZ tb,bU cq s,bU cq m] 334)).drew;rw[<-B] at I;rw[<-B];have f3:=A.s;clear B A V e0 e1 e2 c8;obtain⟨E,hE⟩:=fU N.h.s;rw[<-hE] at p0 p1 p2 c9 f3|-;clear hE;obtain⟨cc,F⟩:=dG (kt s m);have HC:=cz F;clear F;go_wp2_with fail;refine(F3 tb s m aW _).mono ?_;rw[HC.o];rintro e w7 ⟨rfl,C⟩;have M:=Below.step a3 a3.s C;have H:=l9 I C;have q0:=(C.cell (p:=⟨E,0,cw⟩) (by show E<Q.h.s;omega)).trans p0;have q1:=(C.cell (p:=⟨E,1,cw⟩) (by show E<Q.h.s;omega)).trans p1;have q2:=(C.cell (p:=⟨E,2,cw⟩) (by show E<Q.h.s;omega)).trans p2;clear p0 p1 p2 a3 I c9 f1;cases cc with|false=>(have y:Hid (S=cw):=by unfold Hid;rw[hS];exact Qm (by rw[<-HK.o];exact c3) (by rw[a9.o,HC.o]));clear z;go_wp2;refine iI (v:=cg #[bX cw 0 0,bU cq 81]) (by simp[results,results203,go_sem]) ae ⟨_,by rw[y.o];rfl,by rw[y.o];exact tU _,M⟩|true=>(have b1:Hid (∀j,j<k+1->okB bs j=cx):=by intro j hj;by_cases e8:j=k;subst e8;rw[a9.o];exact HC.o;exact a2.o j cN);(have HT:Hid ((range (k+1)).map (AE bs)=(range k).map (AE bs)++[(tb,s,m)]):=by unfold Hid;rw[aet,d8.o]);(obtain⟨L,hL⟩:=fU ((range k).map (AE bs));rw[<-hL] at H HT;have b7:L.n=k:=by rw[hL];simp);(clear hL;have e6:L.n+1<=maxLen:=by unfold maxLen;omega);have e7:(L.n+1)*24<=140737488355328:=cN;have f5:=cz b7;clear b7;have a6:=M.s;have q:=z.o;go_wp2_with (first|(at_builtin;refine yy _ ae (.tmp 58) (.tmp 60) 294 ae w.h.s 334 i0 (bV #[bZ cy,bU cq 0,bU cq 0]) 3 24 underlying294 hi d5 Y d6 ae bB _ _ _ ae (H.alloc _) ⟨w7.h.s,0,cw⟩ 1 1 [bZ tb,bU cq s,bU cq m] ae ae (Dj ae) (BI _ _ _) e6 e7 (ik a6 eQ) ?_;intro v8 w8 a5 i _));have e4:=(M.alloc a6 _).grown i (M.alloc a6 _).s (λj h=>(H.lt j h).1);clear i q;go_roundw;refine⟨k+1,n-5,c-5,a',cN,ae,by have:=HN.o;omega,cN,a8.out,?_,b1.o,e4⟩;rw[HT.o,jv,vS];exact a5;simp[lenOf];omega
 . (obtain rfl:n=0:=cN;obtain rfl:k=K:=by have:=a1.o;omega);(have O:Hid (S=cu ((range k).map (AE bs))):=by unfold Hid;rw[hS,HK.o];exact abF HM.o e9 (λj hj=>a2.o j (by rw[HK.o];exact hj)));(have X:∀x∈(range k).map (AE bs),eT x.2.1/\eT x.2.2:=by intro x hx;obtain⟨j,hj,rfl⟩:=gT.1 hx;have h1:=a2.o j (zA.1 hj);unfold okB Wn at h1;rw[wT] at h1;have h2:=(gl _ _).1 h1.2;unfold eT;omega);have R:=Di l X aF;have a7:=cz R;clear R l X;go_wp2;refine iI (v:=cg #[u4,bU cq 0]) (by simp[results,results203,go_sem]) ae ⟨_,by rw[O.o];rfl,by rw[O.o];exact a7.o,hbel⟩
end
def rn(l:List Int):cV:=l.map Int.m
theorem abI{x:kV}(h:Wn x=cx):∀y∈tu x,0<=y/\y<256:=by have b:=(gl _ _).1 h;intro y a;unfold tu at a;grind
theorem DW{ms:List kV}{log:List Int}(h:pz ms=cu log):∀y∈log,0<=y/\y<256:=by
 unfold pz at h;split at h;next hc=>cases h;intro y c;obtain⟨x,b,a⟩:=De.1 c;exact abI (rJ.1 hc.2 x b) y a
 cases h
theorem Na(h:pz ms=cu log):log.n=5*ms.n/\ms.n<=4096:=by grind[pz,yF]
theorem aev(h:∀y∈log,0<=y/\y<256):dN (rn log)=log:=by
 unfold dN rn;rw[wU];conv=>rhs;rw[<-map_id log]
 grind[map_congr_left]
def Jz(l:List (Int×Int)):Int:=(l.headD (0,0)).1
def Qn(l:List (Int×Int)):Int:=(l.getLastD (0,0)).1+(l.getLastD (0,0)).2
def jB(fg:Int)(l:List (Int×Int)):Option cV:=
 if fZ fg=0∨gY l=cy then cw else
 if 0<l.n/\(Jz l<4∨fg<Qn l) then cw else
 match pz (pN [] l) with
 |none=>cw
 |some log=>if fZ fg<2+log.n then cw else
  cu (qO 2 (pN [] l).n++rn log++replicate (fZ fg-(2+log.n)) 0)
def ZB:ky prog 141 2:=⟨⟨_,underlying141,ae⟩,dC⟩
instance in05bb3 :s7 141 2:=⟨ZB⟩
def Nb(p:Int×Int):Nat->c7:=λi=>if i=0 then bU cq p.1 else bU cq p.2
def abJ(p:Int×Int):∀i,(Nb p i).oneCell'=cx:=λi=>by unfold Nb;split<;>rfl
instance in8301f(x:Int×Int):OF (Nb x):=⟨abJ x⟩
def agV:(#[Value.int cq 0,bU cq 0]:gJ)=cM 2 (Nb (0,0)):=rfl
instance in50e52 :ZR 141 2 (Nb (0,0)):=⟨_,zeroValue141,agV⟩
section
variable {x:Nat}
def Si(j:A.s=m)(hc:∀i v,A[i]?=cu v->w.cell? ⟨b,o+i,cw⟩=cu v)(g:a.eval (.tmp x)=bW (cu ⟨b,o,cw⟩))(e:ky P ty m)(h:wpList P ops Q rest (a.put (cu dst) (bV A)) w):wpList P ops Q (⟨cu dst,.load ty (.tmp x),t2,p,af,cw⟩::rest) a w:=by obtain⟨⟨c,f,d⟩,k⟩:=e;have:=wpList_load_mid (op:=⟨cu dst,.load ty (.tmp x),t2,p,af,cw⟩) (ops:=ops) (rest:=rest) (Q:=Q) ae ty (.tmp x) ae b o g A.t c (λi v l=>hc i v jH) f d jH;rw[vA] at this;exact this h
end
theorem Ik(t:Int):fZ t=0∨100<=fZ t:=by grind[fZ]
theorem aew(h:cL w b 5 n (di ([]++qO 2 m++ls)))(c:base<=b)(_:0<n)(g:n<=2567)(d:ls.n=k)(f:2+k<=n):mN w base (bX (cu ⟨b,0,cw⟩) n n) ((cu (qO 2 m++ls++replicate (n-(2+k)) 0)).getD []):=by
 have a:=Ve h c bN;rw[Yd (by grind[gm]),pL,jv,gm,d] at a;unfold mN;have e:(qO 2 m++ls++replicate (n-(2+k)) 0).n=n:=by grind[gm]
 rw[kL,e];exact a
theorem ak6(h:m<=4096):vT [2] [m]=cu (qO 2 m):=by unfold vT;rw[c8 ⟨by decide,ae,by grind[fitAll]⟩];rfl
section
attribute[local irreducible]wpList Code.wp Calls Oper.wp wpAnyH
theorem Fu(fg:Int)(d2:eT fg)(v:c7)(l:List (Int×Int))(w:cS)(R:fj w v l):
 CP_ 205 #[bU cq fg,v] w λe w'=>∃r,e=cj (cg #[r,bU cq (gq 81 (jB fg l))])/\mN w' w.h.s r ((jB fg l).getD [])/\dS w w':=by
 have HR:=cz R;obtain⟨rb,G⟩:=dG (gY l);have X:=cz λW(c:dS w W)=>uN rb v l G W (R.cP c);obtain⟨T,Q⟩:=dG (jB fg l);rw[Q];obtain⟨n,F⟩:=dG (fZ fg);have a9:=DQ fg;rw[F] at a9;have S:=qP w;obtain⟨ao,cap,rfl,c9,a2,a5⟩:=R;have d3:=cz a2;have b1:=cz a5;clear a2 a5;go_enter func205,ntmps205;by_cases h0:n=0
 . (obtain rfl:cw=T:=by rw[<-Q];unfold jB;rw[c8 (.inl (F.trans h0))]);subst h0;clear Q;go_wp2_with (refine(lH fg _).mono ?_;rintro e Y ⟨rfl,rfl⟩;rw[F]);go_ret2;exact aH
 have g0:((n:Int)==0)=cy:=by rw[lr];omega
 cases rb with
 |false=>
  obtain rfl:cw=T:=by rw[<-Q];unfold jB;rw[c8 (.inr G)]
  clear Q;go_wp2_with (first|(refine(lH fg _).mono ?_;rintro e Y ⟨rfl,rfl⟩;rw[F])|refine je S (X.o _ S.b) λW S=>?_);go_ret2;exact aH
 |true=>
  obtain⟨x,a⟩:=dG (decide (0<l.n/\(Jz l<4∨fg<Qn l)));have J:T=if x=cx then cw else(pz (pN [] l)).bind λlog=>if n<2+log.n then cw else cu (qO 2 (pN [] l).n++rn log++replicate (n-(2+log.n)) 0):=by rw[<-Q];unfold jB;rw[F,cX (by rw[G];simp;exact h0)];subst a;by_cases h9:0<l.n/\(Jz l<4∨fg<Qn l);rw[c8 h9,c8 (gI h9)];grind
  have d:=cz J;clear Q J;rcases vM l.n with hl0|hl0;have b9:x=cy:=by rw[<-a];exact jC λh=>by omega
  subst b9;clear a;have g1:¬(0:Int)<(l.n:Int):=cN;clear hl0;go_upto_region 8 with(first|(refine(lH fg _).mono ?_;rintro e Y ⟨rfl,rfl⟩;rw[F])|refine je S (X.o _ S.b) λW S=>?_);rotate_left;obtain⟨b,o,rfl,a3,c1⟩:=b1.o (Bw.1 hl0);have L:=cz c1;have g1:(0:Int)<(l.n:Int):=cN;obtain⟨k,hk⟩:∃k,l.n=k+1:=⟨l.n-1,cN⟩;have C:k<l.n:=cN;obtain⟨p,hp⟩:=dG (l[k]);obtain⟨q,hq⟩:=dG (l[0]);have a6:Jz l=q.1:=by unfold Jz;rw[headD_eq_head?_getD,head?_eq_getElem?,jG hl0,hq];rfl
  have a7:Qn l=p.1+p.2:=by unfold Qn;rw[getLastD_eq_getLast?,getLast?_eq_getElem?,show l.n-1=k by omega,jG C,hp];rfl
  have c4:=(gl _ _).1 (GQ G C);rw[hp] at c4;have N:Hid (∀W,dS w W->W.cell? ⟨b,o,cw⟩=cu (.int cq q.1)):=cz λW c=>(c.cell (p:=⟨b,o,cw⟩) a3).trans (by have:=(L.o 0 hl0).1;rw[hq] at this;simpa using this);have O:Hid (∀W,dS w W->∀i v,(cM 2 (Nb p))[i]?=cu v->W.cell? ⟨b,o+k*2+i,cw⟩=cu v):=cz λW c i v U=>by rw[dy] at U;split at U;(next I=>refine(c.cell (p:=⟨b,o+k*2+i,cw⟩) a3).trans ?_;rcases i with _|_|i;rw[<-wW U];have:=(L.o k C).1;rw[hp] at this;exact this;rw[<-wW U];have:=(L.o k C).2;rw[hp] at this;exact this;omega);cases U
  obtain⟨A,V⟩:=yw (cM 2 (Nb p));have g2:((l.n:Int)-1)=(k:Int):=cN;have g3:(k:Int)<(l.n:Int):=cN;rw[a6,a7] at a;clear hp hq a6 a7 C hk;by_cases h4:q.1<4
  . (have B:x=cx:=by rw[<-a];exact gI ⟨hl0,.inl h4⟩);(subst B;obtain rfl:T=cw:=by rw[d.o];rfl);have g5:decide (q.1<4)=cx:=gI h4;clear a hl0;go_wp2_with (first|refine jo 34 3 33 (N.o _ S.b) ?_|(refine(lH fg _).mono ?_;rintro e Y ⟨rfl,rfl⟩;rw[F])|refine je S (X.o _ S.b) λW S=>?_|refine Si (vx V) (by rw[V.o];exact O.o _ S.b) ae ZB ?_|refine fu λW S=>?_);go_ret2;exact aH
  by_cases h5:fg<p.1+p.2
  . (have B:x=cx:=by rw[<-a];exact gI ⟨hl0,.inr h5⟩);(subst B;obtain rfl:T=cw:=by rw[d.o];rfl);have g5:decide (q.1<4)=cy:=jC h4;clear a hl0;go_wp2_with (first|(first|refine jo 34 3 33 (N.o _ S.b) ?_|refine jm 38 3 37 S 0 0 (bU cq p.1) ?_|refine jm 40 3 39 S 0 1 (bU cq p.2) ?_)|(refine(lH fg _).mono ?_;rintro e Y ⟨rfl,rfl⟩;rw[F])|refine je S (X.o _ S.b) λW S=>?_|refine Si (vx V) (by rw[V.o];exact O.o _ S.b) ae ZB ?_|refine fu λW S=>?_);go_ret2;exact aH
  have B:x=cy:=by rw[<-a];exact jC λh=>h.2.elim h4 h5
  subst B;have g5:decide (q.1<4)=cy:=jC h4;clear a hl0;go_upto_region 8 with(first|(first|refine jo 34 3 33 (N.o _ S.b) ?_|refine jm 38 3 37 S 0 0 (bU cq p.1) ?_|refine jm 40 3 39 S 0 1 (bU cq p.2) ?_)|(refine(lH fg _).mono ?_;rintro e Y ⟨rfl,rfl⟩;rw[F])|refine je S (X.o _ S.b) λW S=>?_|refine Si (vx V) (by rw[V.o];exact O.o _ S.b) ae ZB ?_|refine fu λW S=>?_);replace S:=S.pop
  all_goals
   have C2:=cz λW(c:dS w W)=>Q1 _ l W (HR.o.cP c);obtain⟨ms,a8⟩:=dG (pN [] l);rw[a8] at C2 d;obtain⟨lg,t⟩:=dG (pz ms);rw[t] at d;have K:=cz λu W hu=>aaA u ms W hu;rw[t] at K;clear a8;rcases lg with _|log
   . have z:PH (cw:Option (List Int))=81:=rfl;rw[z] at K;obtain rfl:T=cw:=by rw[d.o];rfl
     clear t z
     go_wp2_with first|(refine ah (C2.o _ S.b) λr W1⟨D,c⟩=>?_;have H:=cz D;have m:=(S.cP c).kn (DV r) D.blk;clear S c D;have S:=m;clear m;obtain⟨f,j,rfl⟩:∃f j,r=bX f ms.n j:=(by obtain⟨f,j,e,_⟩:=H.o;exact⟨f,j,e⟩))|(refine(K.o _ _ (H.o.kn S.x.2)).mono ?_;rintro e W2 ⟨r2,rfl,-,-,c⟩;replace S:=S.cP c;clear c)
     go_ret2;exact aH
   have z:PH (cu log)=0:=rfl;rw[z] at K;simp only[kL] at K;have a4:=DW t;obtain⟨c3,c2⟩:=Na t;have b4:=cz (aev a4);have M:=cz (show(rn log).n=log.n from mQ ..);have d1:log.n<=20480:=cN;clear t z a4 c3;by_cases h7:n<2+log.n
   . obtain rfl:T=cw:=by rw[d.o];simp[h7]
     have g7:(n:Int)<2+(log.n:Int):=cN;clear h7
     go_wp2_with first|(refine ah (C2.o _ S.b) λr W1⟨D,c⟩=>?_;have H:=cz D;have m:=(S.cP c).kn (DV r) D.blk;clear S c D;have S:=m;clear m;obtain⟨f,j,rfl⟩:∃f j,r=bX f ms.n j:=(by obtain⟨f,j,e,_⟩:=H.o;exact⟨f,j,e⟩))|(refine(K.o _ _ (H.o.kn S.x.2)).mono ?_;rintro e W2 ⟨r2,rfl,I,-,c⟩;have HI:=cz I;have m:=(S.cP c).kn (DV r2) I.blk;clear S c I;have S:=m;clear m;obtain⟨c5,c6,rfl⟩:∃f j,r2=bX f log.n j:=(by obtain⟨f,j,e,_⟩:=HI.o;exact⟨f,j,e⟩))
     go_ret2;exact aH
   have a1:T=cu (qO 2 ms.n++rn log++replicate (n-(2+log.n)) 0):=by rw[d.o];simp[h7]
   have g7:¬(n:Int)<2+(log.n:Int):=cN;have C4:=cz λv u W U hu=>GX v u [2] [ms.n] kM W U hu;rw[ak6 c2] at C4;have Z:gq 21 (cu (qO 2 ms.n))=0:=rfl;rw[Z] at C4;simp only[kL] at C4;have b6:=cz (show∀y∈dN [2],(Lit.int cq y).wf=cx by decide);have b7:=cz (show∀y∈dN [ms.n],(Lit.int ct y).wf=cx from λy hy=>by obtain rfl:=fS.1 hy;exact wf_u64 cN);have d4:IntKind.u64.wrap ((ms.n:Nat):Int)=((ms.n:Nat):Int):=by unfold IntKind.wrap;simp[IntKind.bits,IntKind.signed];omega
   have b5:=cz a1;have E:=cz (show 2+log.n<=n by omega);have b8:(2:Nat)<=n:=cN;have b2:=cz (show∀g,lz (s_ g 0) n 2 1=s_ g 2 from λg=>by unfold lz;rw[cX (by have:=Ik fg;omega)];rfl);clear a1 h7 Z
   go_wp2_with first|(refine ah (C2.o _ S.b) λr W1⟨D,c⟩=>?_;have H:=cz D;have m:=(S.cP c).kn (DV r) D.blk;clear S c D;have S:=m;clear m;obtain⟨f,j,rfl⟩:∃f j,r=bX f ms.n j:=(by obtain⟨f,j,e,_⟩:=H.o;exact⟨f,j,e⟩))|(refine(K.o _ _ (H.o.kn S.x.2)).mono ?_;rintro e W2 ⟨r2,rfl,I,-,c⟩;have HI:=cz I;have m:=(S.cP c).kn (DV r2) I.blk;clear S c I;have S:=m;clear m;obtain⟨c5,c6,rfl⟩:∃f j,r2=bX f log.n j:=(by obtain⟨f,j,e,_⟩:=HI.o;exact⟨f,j,e⟩))|refine mF S cq (dN [2]) qq uW cN cN rfl rfl rfl λW S=>?_|refine mF S ct (dN [ms.n]) vU Aj cN cN rfl rfl rfl λW S=>?_|(refine ah (C4.o _ _ _ (eU.row S.k1 ae (show(1:Nat)<=_ by omega) b6.o) (eU.row S.k0 ae (show(1:Nat)<=_ by omega) b7.o)) λr W⟨ho,c⟩=>?_;have b3:=cz (dx ho);replace S:=S.iw c ho ae ae;clear c;obtain⟨ca,cc,rfl⟩:=b3.o)|refine aiJ S oS ad1 rfl rfl cN λW S=>?_|refine aes S 0 rfl (s:=[]) rfl (dg.ve S.q0 (yA 2 ms.n)) (by rw[gm];omega) (by rw[gm];omega) oS Cw rfl rfl λW S=>?_|(refine y8 vg ae ae b8 ?_;rw[b2.o])|refine aes S 0 rfl (s:=[]++qO 2 ms.n) (gm 2 ms.n) (by rw[b4.o];exact HI.o.kn S.x.2) (by rw[M.o];have:=E.o;omega) (by rw[M.o];have:=E.o;omega) oS Cw rfl rfl λW S=>?_
   go_ret2;rw[b5.o];exact⟨_,ae,aew S.k0 (S.lo _ (nB ..)) (by have:=E.o;omega) a9 M.o E.o,S.b⟩
end
theorem EX(w:cS)(t u ty e:dW)(i:TypeInfo)(z:c7)(l:P.underlying t=cu (.slice e))(m:P.underlying u=cu (.int cq))(j:P.info? e=cu i)(p:i.zero=cu z)(n:Nat)(q:0<n)(h:(n:Int)<=9223372036854775807)(g:n*i.bytes<=281474976710656)(r:0<i.s):
 (Builtin.append_ #[t,u] ty #[bX cw 0 0,bU cq n]).run P w=
  .ok (bX (cu ⟨w.h.s,0,cw⟩) n (grownCap w n 0 e)) (w.drew.alloc (.cells (Builtin.zeroCells z.cells n++Builtin.zeroCells z.cells (grownCap w n 0 e-n)) e)):=by
 have k:n≠0:=cN;have c:¬(9223372036854775807<(n:Int)):=cN;have b:¬(281474976710656<Builtin.nextslicecap n 0*i.bytes):=by grind[nextslicecap_zero]
 have o:IntKind.i64.wrap ((n:Nat):Int)=(n:Int):=kX _ cN;have d:¬((n:Int)<0):=cN;have a:¬((281474976710656:Int)<(n:Int)*(i.bytes:Int)):=cN;have f:i.s≠0:=cN;simp[Builtin.append_,yI l,yI m,sizeOf,typeInfo,zeroValue,j,p,asInt,asIntOf,o,d,a,k,f,c,b,Question.forced,run_firstCells_none,newRow,grownCap];grind[Nat.mul_ne_zero]
section
variable {x:Nat}
theorem aiK(S:St w0 d l L O X w){u:dW}(C:a.eval (.tmp x)=bX cw 0 0)(D:a.eval (.tmp y)=bU cq n)(A:xm P t e z by')(B:P.underlying u=cu (.int cq))(o:0<n)(M:n*by'<=281474976710656)(N:n<=1000000)(q:gZ e=cy)(r:lQ e=cy)(h:∀g c W,n<=c->St w0 d l L (⟨e,z,bX (cu ⟨g,0,cw⟩) 0 c,0,[]⟩::O) X W->wpList P ops Q rest (a.put (cu dst) (bX (cu ⟨g,0,cw⟩) n c)) W):
 wpList P ops Q (⟨cu dst,.call {callee:=.builtin .append,args:=#[.tmp x,.tmp y],argTypes:=#[t,u]},t2,p,af,cw⟩::rest) a w:=by obtain⟨k,J,v,E,F⟩:=A;obtain⟨I,j,m,G,H⟩:=oH v;have b:=EX (P:=P) w t u t2 e I J k B j m n o cN jH cN;have i:=grownCap_ge w n 0 e;have f:=grownCap_le_maxLen w n 0 e bN;refine mz ae λK s=>?_;unfold Oper.wp;simp only[execOp,resolve,invoke,builtin,lx,rN,nX,map_toArray,yh,map_nil,C,D,b];refine s _ _ (h w.h.s _ _ i ?_);refine S.drew.iw ((gK _ _).alloc (eN _) _) ?_ q r;exact World.ownsRow_made (w:=w.drew) _ _ (eN _) f (by rw[Array.size_append,size_zeroCells,size_zeroCells,E,<-Nat.add_mul];grind)
end
section
attribute[local irreducible]wpList Code.wp Calls Oper.wp wpAnyH
def Vh(n:Nat)(a:n<=1000000)(w:cS):CP_ 206 #[bX cw 0 0,bU cq n] w λe w'=>∃v,e=cj v/\w'.ownsRow w.h.s 106 3 v 0 []/\dS w w':=by
 have S:=qP w;have d:¬((n:Int)<0):=cN;rcases vM n with h0|h0
 . have b:(n:Int)=0:=cN;subst h0;go_enter func206,ntmps206;go_wp2;go_ret;exact aH
 . have f:(0:Int)<(n:Int):=cN;go_enter func206,ntmps206;go_wp2_with (refine aiK S ae ae ib vR h0 cN a ae ae λg c W hc S=>?_);go_ret;exact bw
theorem Il(l:cV){x:Nat}(h:l[k]?=cu x):(l.take (k+1)).sum=(l.take k).sum+x:=by grind[take_add_one]
theorem Gw(l:cV)(k:Nat):(l.take k).sum<=l.sum:=by grind[take_append_drop]
def Nc(d:List (c7×List cQ))(v:c7)(F:d.n<=1000)(H:(d.map λx=>x.2.n).sum<=100000)(w:cS)(R:dg w 107 1 v d.n (d.map Prod.fst))(F:∀x∈d,ly w x.1 x.2):
 CP_ 153 #[v] w λe w'=>∃r,e=cj r/\ir w' w.h.s r (d.flatMap Prod.snd)/\dS w w':=by
 obtain⟨ao,cap,rfl,T,j⟩:=dQ R;have Q:=cz R;have E:=cz F;have j:=cz j;obtain⟨ns,y⟩:=sV ((d.map λx=>x.2.n));rw[y.o] at H;have S:=qP w;have n:∀k,k<d.n->∃a l c,d[k]?=cu (.slice a l.n c,l)/\ns[k]?=cu l.n:=λk H=>by obtain⟨x,K⟩:∃x,d[k]?=cu x:=⟨_,jG H⟩;obtain⟨u,l⟩:=x;have Z:=F _ (lu K);obtain⟨a,c,e,_⟩:=dQ Z;simp only at e;exact⟨a,l,c,by rw[K,e],by rw[<-y.o,rK,K];rfl⟩
 have m:=cz n;clear R F n;go_enter func153,ntmps153;go_upto_region 3 with(fail);go_loopw [3,11] (λs i wr=>∃k:Nat,k<=d.n/\i=bU cq k/\s=bU cq (((ns.take k).sum:Nat):Int)/\Hid (St w cw [] [] [] (λ_ _=>True) wr)) (λ_ i _=>d.n-(intOf i).m);exact⟨0,cN,ae,by simp,cz S⟩;clear S;obtain⟨k,H,rfl,rfl,hS⟩:=hrel;by_cases q:k<d.n
 . obtain⟨b,o,rfl⟩:=j.o cN;obtain⟨a,l,c,t,z⟩:=m.o k q;have h:=Il ns z;have f:=Gw ns (k+1);have S:=hS.o;have A:=cz t;have I:(k:Int)<(d.n:Int):=cN;obtain⟨L,g⟩:=dG ((ns.take k).sum);rw[g] at h|-;have p:=cz h;have B:L+l.n<=100000:=cN;clear hS t z h f g;go_wp2_with (refine jF ((Q.o.cP S.b).cellAt cN (by rw[rK,A.o];rfl)) ae ox ?_);go_roundw;exact⟨k+1,cN,by go_num,by rw[p.o];go_num,cz S⟩;exact qN
 . obtain rfl:k=d.n:=cN;have f:=Gw ns d.n;obtain⟨L,g⟩:=dG ((ns.take d.n).sum);rw[g] at f|-;have S:=hS.o;clear hS g;have U:=cz λW=>Vh L cN W;go_upto_region 12 with(refine ah (U.o _) λr W⟨ho,B⟩=>?_;have C:=cz (dx ho);replace S:=S.iw B ho ae ae;clear B;obtain⟨X,Y,rfl⟩:=C.o);go_loopw [6,27] (λu i wr=>∃(k:Nat)(M:List cQ)(a:Option Addr)(c:Nat),k<=d.n/\i=bU cq k/\u=bX a M.n c/\Hid (M=(d.take k).flatMap Prod.snd/\M.n=(ns.take k).sum/\St w cw [] [] [⟨106,3,bX a M.n c,M.n,iZ M⟩] (λ_ _=>True) wr)) (λ_ i _=>d.n-(intOf i).m);exact⟨0,[],X,Y,cN,ae,ae,cz ⟨ae,ae,S⟩⟩;clear S;obtain⟨k,M,F,F,H,rfl,rfl,hS⟩:=hrel;by_cases q:k<d.n
   . obtain⟨b,o,rfl⟩:=j.o cN;obtain⟨a,l,c,t,z⟩:=m.o k q;have h:=Il ns z;have f:=Gw ns (k+1);have S:=hS.o.2.2;have D:=cz hS.o.1;have J:=hS.o.2.1;have A:=cz t;have I:(k:Int)<(d.n:Int):=cN;have p:=cz (show M.n+l.n=(ns.take (k+1)).sum by omega);have B:M.n+l.n<=100000:=cN;have V:=cz (E.o _ (lu t));clear hS t z h f J;go_wp2_with (first|refine jF ((Q.o.cP S.b).cellAt cN (by rw[rK,A.o];rfl)) ae ox ?_|(refine Gm S 0 ae (by':=24) ae ae (V.o.cP S.b) ib (oO _) CU xY ?_;clear S;intro v' W S));have C:Hid (∃N O,v'=bX N (M.n+l.n) O):=cz (dx S.o0);go_roundw;obtain⟨N,O,rfl⟩:=C.o;refine⟨k+1,M++l,N,O,cN,by go_num,by rw[jv],cz ⟨by rw[D.o,take_add_one,A.o,LD,flatMap_append];simp,by rw[jv,p.o],?_⟩⟩;rw[jv,jw];exact S;exact qN
   . obtain rfl:k=d.n:=cN;have G:=hS.o.1;rw[qp] at G;have D:=cz G;have S:=hS.o.2.2;clear hS G;go_wp2;go_ret;exact⟨_,ae,by rw[<-D.o];exact S.o0,S.b⟩
end
def Im(p:cQ)(n:Nat):Nat->c7:=λi=>if i<3 then dE p i else bU cq (n:Int)
def aex(p:cQ)(n:Nat):∀i,(Im p n i).oneCell'=cx:=λi=>by unfold Im;split;exact dJ _ _;rfl
instance ine610d(p:cQ)(n:Nat):OF (Im p n):=⟨aex p n⟩
theorem aey(q:cQ)(m:Nat):∀i,i<3->Im q m (0+i)=dE q i:=by simp_all[Im]
def agW:(#[bU cq 0,bU ct 0,bU .u32 0,bU cq 0]:gJ)=cM 4 (Im (0,0,0) 0):=rfl
instance in6bd30 :ZR 361 4 (Im (0,0,0) 0):=⟨_,zeroValue361,agW⟩
def aez:ky prog 361 4:=⟨⟨_,underlying361,ae⟩,dC⟩
instance in952b2 :s7 361 4:=⟨aez⟩
def Vi(p:cQ)(n:Nat):prog.built 361 [(0,bV (cM 3 (dE p))),(1,bU cq (n:Int))]=cu (cM 4 (Im p n)):=dC
def agX:(prog.info? 361).map (λi=>(i.zero,i.s,i.bytes))=cu (cu (bV #[bU cq 0,bU ct 0,bU .u32 0,bU cq 0]),4,32):=dC
def agY:xm prog 362 361 4 32:=⟨underlying362,_,agX,ae,cN⟩
section
variable {x:Nat}
theorem aj7(S:St w0 d l L O X w){B:gJ}{g:Nat->c7}(H:a.eval (.tmp x)=bV A)(I:a.eval (.tmp y)=bV B)(m:A=cM n f)(o:B=cM n g)(F:xm P t e n by')(R:n<=1000)(ho:gZ e=cy)(h:∀W,St w0 d l (⟨w.h.s,e,2*n,λi=>if i<n then f i else g (i-n)⟩::L) O X W->wpList P ops Q rest (a.put (cu dst) (bX (cu ⟨w.h.s,0,cw⟩) 2 2)) W):
 wpList P ops Q (⟨cu dst,.buildSlice t 2 #[(0,.tmp x),(1,.tmp y)],t2,p,af,cw⟩::rest) a w:=by
 obtain⟨G,k,E,T,z⟩:=F;obtain⟨M,b,j,c,J⟩:=oH E;refine mz ae λK D=>wp_buildSlice t e 2 _ ae (cM (2*n) λi=>if i<n then f i else g (i-n)) M k G b j cN cN ?_ (D _ _ (h _ (S.alloc e ae ho)));rw[c];have r:(Array.map (λ(p:Nat×Operand)=>(p.1,a.eval p.2)) #[(0,.tmp x),(1,.tmp y)]).t=[(0,bV A),(1,bV B)]:=by simp[H,I]
 rw[show(Array.map (λx=>match x with|(i,x)=>(i,a.eval x)) #[(0,Operand.tmp x),(1,Operand.tmp y)]).t=[(0,Value.agg A),(1,Value.agg B)] from r];have C:=Great.fill_whole z [Value.agg A,Value.agg B] ((Array.range (2*n)).map (k.cells[· % k.cells.s]!)) (by
  intro v q;simp only[iX,jL,uH] at q;rcases q with rfl|rfl
  . show A.s=n;rw[m,cW]
  . show B.s=n;rw[o,cW]) eQ
 refine Eq.trans C (gQ cu ?_);apply yg;intro i;have s:(Value.agg A).cells=A:=rfl;have u:(Value.agg B).cells=B:=rfl;simp only[Bu,flatMap_nil,wV,s,u,Lx];rw[LB,dy,nA,m,o,cW,nL,nL,dy,dy];by_cases N:i<n;grind;grind
end
theorem ak7(h:m<4294967296):vT [4] [m]=cu (qO 4 m):=by unfold vT;rw[c8 ⟨by decide,ae,by grind[fitAll]⟩];simp[kY]
def qi(a:Option cV)(p:cQ×Nat):Option cV:=a.bind λt=>if im p.1=cx then cu (t++iT p.1++qO 4 p.2) else cw
def At(r1:cQ)(n1:Nat)(r2:cQ)(n2:Nat):Option cV:=qi (qi (cu []) (r1,n1)) (r2,n2)
def ZC(r1:cQ)(n1:Nat)(r2:cQ)(n2:Nat)(k:Nat):cQ×Nat:=if k=0 then(r1,n1) else(r2,n2)
def wL(r1:cQ)(n1:Nat)(r2:cQ)(n2:Nat)(k:Nat):Option cV:=(range k).foldl (λa i=>qi a (ZC r1 n1 r2 n2 i)) (cu [])
def Sj(a:k<2)(h:wL r1 n1 r2 n2 (k+1)=cw):wL r1 n1 r2 n2 2=cw:=by
 rcases k with _|_|k;show qi (wL r1 n1 r2 n2 (0+1)) _=cw;rw[h];rfl
 exact h;omega
section
attribute[local irreducible]wpList Code.wp Calls Oper.wp wpAnyH
theorem Vj(r1:cQ)(h1:dD r1)(n1:Nat)(H:n1<4294967296)(r2:cQ)(h2:dD r2)(n2:Nat)(I:n2<4294967296)(w:cS):
 CP_ 258 #[mO r1,bU cq n1,mO r2,bU cq n2] w λe w'=>∃r,e=cj (cg #[r,bU cq (gq 51 (At r1 n1 r2 n2))])/\mN w' w.h.s r ((At r1 n1 r2 n2).getD [])/\dS w w':=by
 obtain⟨A,Z⟩:=fU (cM 3 (dE r1));obtain⟨B,hB⟩:=fU (cM 3 (dE r2));rw[dk Z,dk hB];have HA:=cz Z;have HB:=cz hB;have J:At r1 n1 r2 n2=wL r1 n1 r2 n2 2:=rfl;rw[J];obtain⟨t,b⟩:=dG (ZC r1 n1 r2 n2);have V:=cz (show∀k,wL r1 n1 r2 n2 (k+1)=qi (wL r1 n1 r2 n2 k) (t k) from λk=>by rw[<-b];unfold wL;rw[range_succ,BC];rfl);have T:=cz (show∀k,k<2->dD (t k).1/\(t k).2<4294967296 from λk hk=>by rw[<-b];unfold ZC;split;exact⟨h1,H⟩;exact⟨h2,I⟩);obtain⟨fl,C⟩:=sV ((λi=>if i<4 then Im r1 n1 i else Im r2 n2 (i-4)));have Q:=cz (show∀k i,k<2->i<4->fl (k*4+i)=Im (t k).1 (t k).2 i from λk i hk hi=>by
  rw[<-b,<-C.o];unfold ZC;rcases k with _|_|k
  . simp only[yn,pM,c8 hi,oQ]
  . grind
  . omega)
 have S:=(qP w).Jn 5 1 ae ae;clear Z hB b J h1 h2 H I;go_enter func258,ntmps258;go_upto_region 3 with(first|refine lE ae (by rw[HA.o];exact Vi r1 n1) ?_|refine lE ae (by rw[HB.o];exact Vi r2 n2) ?_|refine aj7 S rfl rfl rfl rfl agY cN rfl λW S=>?_|refine fO ?_|refine fu λW S=>?_);rw[C.o] at S;obtain⟨g0,a3⟩:=dG W.h.s;go_loopw [10,24] (λv i wr=>∃(k:Nat)(M:cV)(a:Option Addr)(c:Nat),k<=2/\i=bU cq k/\v=bX a M.n c/\Hid (wL r1 n1 r2 n2 k=cu M/\M.n=20*k/\St w cw [] [⟨_,361,8,fl⟩,⟨_,106,3,dE r2⟩,⟨_,106,3,dE r1⟩] [⟨5,1,bX a M.n c,M.n,eo M⟩] (λ_ _=>True) wr)) (λ_ i _=>2-(intOf i).m);exact⟨0,[],cw,0,cN,ae,ae,cz ⟨ae,ae,S⟩⟩;clear S;obtain⟨k,M,ma,mc,hk,rfl,rfl,hS⟩:=hrel;by_cases f:k<2
 . (have S:=hS.o.2.2;have R:=cz hS.o.1;have G:=hS.o.2.1;have h:=V.o k;rw[R.o] at h;obtain⟨q,m,g⟩:∃q m,t k=(q,m):=⟨_,_,ae⟩;rw[g] at h;have n:=λi hi=>Q.o k i f hi;simp only[g] at n;have b:=T.o k f;rw[g] at b;obtain⟨hq,hm⟩:=b;simp only at hq hm;have HF:=cz n;have HT:=cz h;obtain⟨A0,l⟩:=fU (cM 3 (dE q));obtain⟨A4,z⟩:=yw (cM 4 (Im q m));have x:=cz l;have p:=cz (xT q hq);rw[dk l] at p;have h4:k*4+4<=8:=cN;have a4:(k:Int)<2:=cN;have L:=cz f;have D:=cz G;have a2:IntKind.u64.wrap ((m:Nat):Int)=((m:Nat):Int):=by unfold IntKind.wrap;simp[IntKind.bits,IntKind.signed];omega);clear hS h n g l f hk G;have HG:=cz (aey q m);cases s:im q with|false=>rw[s] at p;have U:=cz s;clear s;go_wp2_with (first|refine P7 S 0 ae (o:=k*4) (m:=4) ae (Im q m) h4 HF.o z.o aez ?_|refine oM_ S 0 ae (o:=0) (m:=3) (dE q) HG.o x.o ?_|(refine(p.o _).mono ?_;rintro e W ⟨r,rfl,-,F⟩;replace S:=S.cP F)|refine fu λW S=>?_);have e2:wL r1 n1 r2 n2 2=cw:=Sj L.o (by rw[HT.o];simp[qi,U.o]);rw[e2];go_ret2;exact aH|true=>(rw[s] at p;simp only[oQ] at p;have U:=cz s;clear s;have K:=cz λv u W hv hu=>GX v u [4] [m] kM W hv hu;rw[ak7 hm] at K;have E:gq 21 (cu (qO 4 m))=0:=rfl;rw[E] at K;simp only[kL] at K;have X:=cz (show∀y∈dN [4],(Lit.int cq y).wf=cx by decide);have Y:=cz (show∀y∈dN [m],(Lit.int ct y).wf=cx from λy hy=>by obtain rfl:=fS.1 hy;exact wf_u64 cN);have a1:M.n<=40:=by have:=D.o;have:=L.o;omega);have d:=cz (gh q);have j:=cz (gm 4 m);clear E;go_wp2_with (first|refine jl 40 3 39 S 1 3 (bU cq m) ?_|refine P7 S 0 ae (o:=k*4) (m:=4) ae (Im q m) h4 HF.o z.o aez ?_|refine oM_ S 0 ae (o:=0) (m:=3) (dE q) HG.o x.o ?_|(refine ah (p.o _) λr W⟨ho,F⟩=>?_;have N:=cz (dx ho);replace S:=S.iw F ho ae ae;obtain⟨ca,cc,rfl⟩:=N.o)|refine mF S cq (dN [4]) qq uW cN cN rfl rfl rfl λW S=>?_|refine mF S ct (dN [m]) vU Aj cN cN rfl rfl rfl λW S=>?_|(refine ah (K.o _ _ _ (eU.row S.k1 ae (show(1:Nat)<=_ by omega) X.o) (eU.row S.k0 ae (show(1:Nat)<=_ by omega) Y.o)) λr W⟨ho,F⟩=>?_;have O:=cz (dx ho);replace S:=S.iw F ho ae ae;obtain⟨da,dc,rfl⟩:=O.o)|(refine Gm S 2 ae (by':=1) ae ae S.q1 B7 (AT _) (by simp only;rw[d.o];omega) (by unfold maxLen;simp only;rw[d.o];omega) ?_;clear S;intro v' W S)|(refine Gm S 2 ae (by':=1) ae ae S.q0 B7 (AT _) (by simp only;rw[d.o,j.o];omega) (by unfold maxLen;simp only;rw[d.o,j.o];omega) ?_;clear S;intro v' W S)|refine fu λW S=>?_);have HV:Hid (∃va vc,v'=bX va (M.n+(iT q).n+(qO 4 m).n) vc):=cz (dx S.o2);have HS:=cz S.pop.pop.pop.KY.KY;go_roundw;(obtain⟨va,vc,rfl⟩:=HV.o;have e6:wL r1 n1 r2 n2 (k+1)=cu (M++iT q++qO 4 m):=by rw[HT.o];unfold qi;simp[U.o]);(refine⟨k+1,M++iT q++qO 4 m,va,vc,by have:=L.o;omega,by go_num,by rw[jv,jv],cz ⟨e6,by rw[jv,jv,D.o,d.o,j.o];omega,?_⟩⟩;have e8:eo (M++iT q++qO 4 m)=eo M++eo (iT q)++eo (qO 4 m):=by rw[Ar,Ar]);rw[e8,jv,jv];exact HS.o;have:=L.o;simp[intOf];omega
 . obtain rfl:k=2:=cN;have S:=hS.o.2.2;have R:=cz hS.o.1;clear hS;go_wp2;go_ret2;rw[R.o];exact bw
end
def ZD:(prog.info? 107).map (λi=>(i.zero,i.s,i.bytes))=cu (cu (.slice cw 0 0),1,24):=dC
theorem Sk(a:Pl×(List cQ×List cQ×Int))(want:Nat):(ji a want).2.2.1.n<=a.2.2.1.n+want:=by unfold ji;split;omega;split;grind;next h=>(rcases hl:fY a.1 a.2.1 want with⟨s',M,c⟩;rw[hl] at h;obtain rfl:c=0:=by grind);have:=Fp hl;grind
def Fv:∀(ws:cV)(a:Pl×(List cQ×List cQ×Int)),(ws.foldl ji a).2.2.1.n<=a.2.2.1.n+ws.sum
 | [],a=>by simp
 |x::ws,a=>by
  rw[zC,sum_cons];have b:=Fv ws (ji a x);have c:=Sk a x;omega
theorem ZE(m:Nat):∀l:cV,(∀x∈l,x<=m)->l.sum<=l.n*m
 | [],_=>by simp
 |x::l,h=>by
  have b:=ZE m l λy a=>h y (kT _ a)
  grind[mem_cons_self,succ_mul]
theorem sK(s:Pl)(cO:cQ)(n:Int):(eP s cO n).2.2.1.n<=6000:=by unfold eP;split;grind;simp only;split;grind;split;grind;have a:=Fv (qT n) (s,([cO],[cO],0));have b:=ZE 512 (qT n) λx c=>Bb n x (by grind[qT,dropLast_sublist]);grind[zj,qT]
def mw5(a:Pl×(cV×(List cQ×Int)))(q p2:cQ)(n2:Nat):Pl×(cQ×(List cQ×Int)):=
 if a.2.2.2≠0 then(a.1,(cY,([],a.2.2.2))) else
 if(eP a.1 p2 (n2:Nat)).2.2.2≠0 then((eP a.1 p2 (n2:Nat)).1,(cY,([],(eP a.1 p2 (n2:Nat)).2.2.2)))
 else((eP a.1 p2 (n2:Nat)).1,(q,(([q]++a.2.2.1)++(eP a.1 p2 (n2:Nat)).2.2.1,0)))
def mw4(a:Pl×(cQ×Int))(p1:cQ)(n1:Nat)(p2:cQ)(n2:Nat):Pl×(cQ×(List cQ×Int)):=
 if a.2.2≠0 then(a.1,(cY,([],a.2.2))) else mw5 (eP a.1 p1 (n1:Nat)) a.2.1 p2 n2
def mw3(a:Pl×(cQ×Int))(p1:cQ)(n1 n2 ee:Nat):Pl×(cQ×(List cQ×Int)):=
 if a.2.2≠0 then(a.1,(cY,([],a.2.2))) else
 match At p1 n1 a.2.1 n2 with
 |none=>(a.1,(cY,([],51)))
 |some t=>mw4 (eY a.1 (ee:Nat) t) p1 n1 a.2.1 n2
def mw2(a:Pl×(cQ×Int))(n1:Nat)(ee:cV):Pl×(cQ×(List cQ×Int)):=
 if a.2.2≠0 then(a.1,(cY,([],a.2.2))) else
 match jB (a.1.dv.n:Nat) (kF a.1.mp 2) with
 |none=>(a.1,(cY,([],81)))
 |some sp=>mw3 (fG a.1 sp ((ee.take (ee.n-1)).drop (jT (n1:Nat)))) a.2.1 n1 sp.n (ee.getD (ee.n-1) 0)
def gO(s:Pl)(text ee:cV):Pl×(cQ×(List cQ×Int)):=mw2 (fG s text (ee.take (jT (text.n:Nat)))) text.n ee
def fh.qD{P:Nat}(h:fh w P D M s):s.dv.n<=1024:=by obtain⟨_,c,b,pv,a⟩:=h.dev;exact a.qD
theorem Io{t:Int}{l:List (Int×Int)}(h:jB t l=cu sp):∀x∈sp,x<256:=by unfold jB at h;split at h;cases h;split at h;cases h;split at h;cases h;next log hlog=>split at h;cases h;cases h;intro x a;rcases gH.1 a with a|a;rcases gH.1 a with a|a;exact yA _ _ x a;unfold rn at a;obtain⟨y,b,rfl⟩:=gT.1 a;have:=DW hlog y b;omega;grind
theorem O6{t:Int}{l:List (Int×Int)}(h:jB t l=cu sp):sp.n<=2567:=by grind[DQ,jB,gm,rn]
theorem Ip{a:Option cV}{p:cQ×Nat}{t:cV}(h:qi a p=cu t)(c:∀u,a=cu u->∀x∈u,x<256):∀x∈t,x<256:=by unfold qi at h;cases a with|none=>cases h|some u=>rw[xA] at h;split at h;cases h;intro x b;rcases gH.1 b with b|b;rcases gH.1 b with b|b;grind;grind[pW];grind[yA];cases h
theorem abK{t:cV}(h:At p1 n1 p2 n2=cu t):∀x∈t,x<256:=
 Ip h λ_ a=>Ip a λu a x b=>by grind
section
variable {x:Nat}
theorem aeA{t:dW}{z:Nat}(h:Gp P t z)(ao:Option Addr)(n c y k:Nat)(b:y<=k)(a:k<=c)(W:cS):(Instr.sliceAt t (bX ao n c) (cu (.int cq y)) (cu (.int cq k)) cw).run P W=.ok (bX (lz ao c y z) (k-y) (c-y)) W:=by rw[yZ h,run_slice_lh W t ao n c h.1 cq cq (y:Nat) (k:Nat) cN cN cN,h.2];rfl
theorem Sl{c:Nat}{d b:Operand}(i:Gp P ty z)(j:a.eval (.tmp x)=.slice ao n c)(f:a.eval d=.int .i64 y)(e:a.eval b=.int .i64 k)(l:y<=k)(g:k<=c)(h:wpList P ops Q rest (a.put (some dst) (.slice (lz ao c y z) (k-y) (c-y))) w):
 wpList P ops Q (⟨some dst,.slice ty (.tmp x) (some d) (some b) none,t2,p,af,none⟩::rest) a w:=
 nH ae ty (.tmp x) (some d) (some b) none ae _ (by grind[aeA]) h
end
theorem abL{g:Nat}(h:cL w g 106 3 (dE q)):ly w (bX (cu ⟨g,0,cw⟩) 1 1) [q]:=by
 unfold ly;refine EM h (yP [q]) (eN _) bN λj u c=>?_;have a:j<3:=by grind[yP]
 refine⟨a,?_⟩;have b:=kG [q] (i:=0) eQ (A:=cM 3 (dE q)) ae j a;simp_all[dy]
def Yf(v u:c7)(l:List (Int×Int))(ms:List kV)(w:cS)(hv:fj w v l)(hu:tT w u ms):
 CP_ 204 #[v,u] w λe w'=>∃r,e=.returned (.tuple #[r,.int .i64 (WJ (uO l ms))])/\mT w' w.heap.size r ((uO l ms).getD [])/\fj w' r ((uO l ms).getD [])/\dS w w':=by
 obtain⟨i0,hi,f9,d6,g5⟩:=oH Ld;have HV:=cz hv;clear hv;obtain⟨uo,g8,rfl,f8,d5,d4⟩:=hu;have HU:=cz d4;clear d4;have HW:=cz d5;clear d5;obtain⟨S,HS⟩:=yw (uO l ms);rw[<-HS.o];obtain⟨r,HR⟩:=sV (gY l);go_enter func204,ntmps204;go_wp2_with fail
 refine aj (uN r _ l HR.o _ HV.o) λD a9=>?_;cases r with
 |false=>
  have J:Hid (S=none):=by unfold Hid;rw[HS.o];unfold uO;rw[HR.o];rfl
  go_wp2;refine iI (v:=.tuple #[.slice none 0 0,.int .i64 81]) (by simp[results,results204,go_sem]) ae ⟨_,by rw[J.o];rfl,by rw[J.o];exact aV,by rw[J.o];exact tR _,a9⟩
 |true=>
 obtain⟨f,T⟩:=fU (qx l);have e2:Hid (S=(ry f ms).map iE):=by unfold Hid;rw[HS.o,T];unfold uO;rw[HR.o];rfl
 have HF:=cz T;clear T;have Z:=a9.size;obtain⟨Wa,X⟩:=fU (D.alloc (.cells zeroCells248 248));have f6:cL Wa D.heap.size 248 4096 (iL λ_=>false):=by rw[X,afZ];exact br
 have a7:dS w Wa:=by rw[X];exact a9.alloc Z _
 go_wp2_with fail;rw[<-X];clear X;refine ah (acM _ l _ (HV.o.cP a7)) λz w2⟨hz,c3⟩=>?_;have c1:=Below.step a7 a7.size c3;have b5:=f6.cP c3;obtain⟨q,hq⟩:=fU (nW l);rw[<-hq] at hz;have b7:Hid (∀k(hk:k<q.length),0<=q[k]/\q[k]<4096):=by subst hq;exact λk hk=>acQ HR.o hk
 have HQ:Hid (∀n,n<4096->oG q n=f n):=by subst hq;exact λn hn=>(WL HR.o hn).trans (by rw[HF.o])
 clear hq;obtain⟨zo,g9,rfl,g6,_,d7⟩:=hz;obtain⟨b,o,HZ⟩:∃b o,q≠ []->zo=s_ b o/\b≠D.heap.size/\∀j(h:j<q.length),w2.cell? ⟨b,o+j,none⟩=some (.int .i64 q[j]):=by by_cases I:q=[];exact⟨0,0,λh=>absurd I h⟩;obtain⟨b,o,h1,h2,R⟩:=d7 I;refine⟨b,o,λ_=>⟨h1,?_,R⟩⟩;rintro rfl;have h4:=R 0 (Nat.pos_of_ne_zero λh=>I (yj h));rw[cell_of_row w2 D.heap.size _ _ 248 _ b5,dy] at h4;split at h4<;>simp[iL] at h4
 have e4:Hid (q≠ []->zo=s_ b o/\b≠D.heap.size):=λh=>⟨(HZ h).1,(HZ h).2.1⟩;have b9:Hid (q≠ []->∀j(h:j<q.length),w2.cell? ⟨b,o+j,none⟩=some (.int .i64 q[j])):=λh=>(HZ h).2.2;clear HZ d7;go_wp2_with fail
 go_loopw [22] (λi wr=>∃(k:Nat),k<=q.length/\i=.int .i64 k/\cL wr D.heap.size 248 4096 (iL (oG (q.take k)))/\Hid (q≠ []->∀j(h:j<q.length),wr.cell? ⟨b,o+j,none⟩=some (.int .i64 q[j]))/\dS w wr)
  (λi _=>q.length-(intOf i).toNat)
 exact⟨0,gG _,ae,b5.congr (λi _=>by simp[iL,oG]),b9,c1⟩;clear b5 b9 c1;obtain⟨k,hk,rfl,C,b6,hbel⟩:=hrel;by_cases d:k<q.length
 . (have I:q≠ []:=by intro h;simp[h] at d);obtain⟨rfl,e6⟩:=e4.o I;have h1:=b6.o I k d;obtain⟨n,hn⟩:∃n:Nat,q[k]=(n:Int):=⟨q[k].toNat,by have:=b7.o k d;omega⟩;have f1:=b7.o k d;have J:=cz hn;rw[hn] at h1 f1;clear hn I;have e8:=C.cell (i:=n) cN;have h6:=C.frozen n;simp only[iL] at e8;have c5:(n:Int)<(4096:Int):=cN;have e9:(0:Int)<=(n:Int):=cN;go_wp2;go_roundw;refine⟨k+1,cN,by go_num,C.GS n true (λj hj=>?_),λhh j hj=>(yx (I9 _ _ _ _ (by show b≠D.heap.size;exact e6))).trans (b6.o hh j hj),hbel.setCell (p:=⟨D.heap.size,n,none⟩) Z _⟩;rw[FZ d,J.o];by_cases c6:j=n;subst c6;simp;rw[cX c6,jC cN,Bool.or_false];exact qN
 . obtain rfl:k=q.length:=cN;rw[qp] at C;have d2:cL wr D.heap.size 248 4096 (iL f):=C.congr (λn hn=>by simp only[iL];rw[HQ.o n hn]);go_wp2_with fail
   go_loopw [31] (λi wr=>∃(k:Nat)(g:Nat->Bool),k<=ms.length/\i=.int .i64 k/\cL wr D.heap.size 248 4096 (iL g)/\Hid (S=(ry g (ms.drop k)).map iE)/\dS w wr)
    (λi _=>ms.length-(intOf i).toNat)
   exact⟨0,f,gG _,ae,d2,e2,hbel⟩;clear d2 hbel C d hk;obtain⟨k,g,hk,rfl,C,HG,hbel⟩:=hrel;have Q:=hbel.size;by_cases d:k<ms.length
   . obtain⟨b,o,rfl,e7,M⟩:=HU.o (by intro h;simp[h] at d);obtain⟨h1,h2,R⟩:=LK e7 M hbel d;clear M;have hw:=HW.o _ (mP d);have HD:Hid (ms.drop k=ms[k]::ms.drop (k+1)):=af3 d;obtain⟨⟨t,s,n⟩,hx⟩:∃x,x=ms[k]:=⟨_,ae⟩;rw[<-hx] at h1 h2 R hw HD;clear hx;simp only at h1 h2 R hw;have e3:=cz hw;clear hw;obtain⟨c,HC⟩:=sV (kt s n);go_wp2_with fail;(obtain⟨U,F⟩:=fU (wr.alloc (.cells #[.bool t,.int .i64 s,.int .i64 n] 334));have p0:U.cell? ⟨wr.heap.size,0,none⟩=some (.bool t):=by rw[F];exact aY);(have p1:U.cell? ⟨wr.heap.size,1,none⟩=some (.int .i64 s):=by rw[F];exact aY);(have p2:U.cell? ⟨wr.heap.size,2,none⟩=some (.int .i64 n):=by rw[F];exact aY);(have f7:U.heap.size=wr.heap.size+1:=by rw[F];simp);(have a8:dS w U:=by rw[F];exact hbel.alloc Q _);have d3:cL U D.heap.size 248 4096 (iL g):=by rw[F];exact C.alloc_old _
     have c9:=C.lt;rw[<-F];clear F hbel C h1 h2 R;obtain⟨E,hE⟩:=fU wr.heap.size;rw[<-hE] at p0 p1 p2 f7 c9 Q|-;clear hE;refine(F3 t s n e3.o _).mono ?_;rw[HC.o];rintro e w4 ⟨rfl,H⟩;have a6:=Below.step a8 a8.size H;have d1:=d3.cP H;have q0:=(H.cell (p:=⟨E,0,none⟩) amL).trans p0;have q1:=(H.cell (p:=⟨E,1,none⟩) amL).trans p1;have q2:=(H.cell (p:=⟨E,2,none⟩) amL).trans p2;have i2:=H.size;have f5:E≠D.heap.size:=cN;clear p0 p1 p2 a8 d3 H;cases c with
     |false=>(have J:Hid (S=none):=by unfold Hid;rw[HG.o,HD.o,Tx HC.o];rfl);go_wp2;refine iI (v:=.tuple #[.slice none 0 0,.int .i64 81]) (by simp[results,results204,go_sem]) ae ⟨_,by rw[J.o];rfl,by rw[J.o];exact aV,by rw[J.o];exact tR _,a6⟩
     |true=>
      obtain⟨g1,g2,g3,g4⟩:=(gl s n).1 HC.o;obtain⟨a,rfl⟩:∃a:Nat,s=(a:Int):=⟨s.toNat,cN⟩;obtain⟨m,rfl⟩:∃a:Nat,n=(a:Int):=⟨n.toNat,cN⟩;have d9:Hid (∀j,j<=m->qA g a t j=true->S=none):=by
       intro j hj b2;rw[HG.o,HD.o,Ov]
       . rfl
       . exact Q3 b2 (by simpa using hj)
      have e1:Hid (qA g a t m=false->S=(ry (yz g a t m) (ms.drop (k+1))).map iE):=by
       intro b2;rw[HG.o,HD.o,GV HC.o (by simpa using b2)];simp
      have i3:IntKind.i64.wrap ((a:Int)+(m:Int))=(a:Int)+(m:Int):=kX _ cN
      go_wp2_with fail
      go_loopw [41] (λi K=>∃(p j:Nat),p=a+j/\j<=m/\i=.int .i64 j/\cL K D.heap.size 248 4096 (iL (yz g a t j))/\Hid (qA g a t j=false)/\(K.cell? ⟨E,0,none⟩=some (.bool t)/\K.cell? ⟨E,1,none⟩=some (.int .i64 a)/\K.cell? ⟨E,2,none⟩=some (.int .i64 m))/\E<K.heap.size/\dS w K)
       (λi _=>m-(intOf i).toNat)
      case atStart=>exact⟨a,0,ae,gG _,ae,d1.congr (λi _=>by simp only[iL];rw[Wz]),ae,⟨q0,q1,q2⟩,cN,a6⟩
      case round=>
       clear q0 q1 q2 d1 a6;obtain⟨p,j,O,hj,rfl,Y,HJ,⟨q0,q1,q2⟩,f4,L⟩:=hrel;by_cases h9:j<m
       . have g7:(j:Int)<(m:Int):=cN;have w6:IntKind.i64.wrap ((a:Int)+(j:Int))=(p:Int):=by rw[kX _ cN];omega
         have c5:(p:Int)<(4096:Int):=cN;have e9:(0:Int)<=(p:Int):=cN;have b1:=Y.cell (i:=p) cN;have h7:=Y.frozen p;simp only[iL] at b1;rw[O,acP,<-O] at b1;obtain⟨y,hy⟩:=dG (g p);rw[hy] at b1;have HY:Hid (qA g a t (j+1)=(y==t)):=by
          unfold Hid;rw[Q2,HJ.o,<-O,hy];rfl
         clear hy;have b8:=cz O;clear O;have c2:∀(W:cS)(v:c7)(o:Nat),(W.setCell ⟨D.heap.size,p,none⟩ v).cell? ⟨E,o,none⟩=W.cell? ⟨E,o,none⟩:=λW v o=>
          yx (I9 _ _ _ _ (by show E≠D.heap.size;exact f5))
         have a2:=cz c2;clear c2;cases t<;>cases y
         case false.false|true.true=>
          have J:Hid (S=none):=d9.o (j+1) cN HY.o
          go_wp2_with (go_quiet (fail))
          refine iI (v:=.tuple #[.slice none 0 0,.int .i64 81]) (by simp[results,results204,go_sem]) ae ⟨_,by rw[J.o];rfl,by rw[J.o];exact aV,by rw[J.o];exact tR _,by refine below_drewN ?_ _;exact L⟩
         all_goals
          have w5:IntKind.i64.wrap ((j:Int)+1)=(j:Int)+1:=kX _ cN
          go_wp2_with (go_quiet (fail))
          go_roundw
          case rel=>
           refine⟨p+1,j+1,by have:=b8.o;omega,cN,by go_num,cL.GS (w:=wr.drewN _) Y p _ (λn _=>by rw[WD,<-b8.o]),HY.o,
            ⟨(a2.o (wr.drewN _) _ _).trans q0,(a2.o (wr.drewN _) _ _).trans q1,(a2.o (wr.drewN _) _ _).trans q2⟩,
            pK f4 (Below.size (B:=w.heap.size) ((below_drewN (gK _ wr) _).setCell (p:=⟨D.heap.size,p,none⟩) Z _)),(below_drewN L _).setCell (p:=⟨D.heap.size,p,none⟩) Z _⟩
          case measure=>exact qN
       . have f3:j=m:=cN;subst f3;have h8:¬(j:Int)<(j:Int):=cN;have a4:=e1.o HJ.o;have a4:=cz a4;go_wp2;go_roundw
         case rel=>exact⟨k+1,yz g a t j,cN,by go_num,Y,a4,L⟩
         case measure=>exact qN
   . (obtain rfl:k=ms.length:=cN;have a3:Hid (S=some (iE g)):=by unfold Hid;rw[HG.o,drop_length];rfl);have a1:=C;go_wp2_with (refine tO (o:=⟨some 61,.load 248 (.tmp 6),_,_,_,none⟩) ae 248 (.tmp 6) ae D.heap.size ae 4096 248 _ a1 _ underlying248 ae af2 ?_);(obtain⟨A,hA⟩:=fU (cM 4096 (iL g));have HA:Hid (∀k,k<4096->A[k]?=some (.bool (g k))):=by intro k hk;rw[hA,dy,c8 hk];rfl);(have h5:A.size=4096:=by rw[hA,cW]);rw[<-hA];clear hA a1;have N:=iD wr w.heap.size 3 1
     go_loopw [13,62] (λx i wr=>∃(k:Nat),k<=4096/\i=.int .i64 k/\wr.ownsRow w.heap.size 3 1 x (l7 g k).length ((l7 g k).map (Value.int .i64))/\dS w wr)
      (λ_ i _=>4096-(intOf i).toNat)
     exact⟨0,gG _,ae,N,hbel⟩;clear N hbel C;obtain⟨k,hk,rfl,G,hbel⟩:=hrel;have Q:=hbel.size;by_cases d:k<4096
     . have c5:(k:Int)<(4096:Int):=cN;have i1:=sq g k;have V:=HA.o k d;by_cases T:g k=true
       . (rw[T] at V;have f2:=Ty A k true d V;have a5:Hid (l7 g (k+1)=l7 g k++[(k:Int)]):=by unfold Hid;rw[zF,c8 T]);clear T;have d8:=cz G.lt;go_wp2_with (first|(at_builtin;refine yy _ ae _ _ 81 ae w.heap.size 3 i0 (.int .i64 0) 1 8 qq hi f9 d6 g5 ae kM _ _ _ ae (G.alloc _) ⟨wr.heap.size,0,none⟩ 1 1 [.int .i64 k] ae ae (cell_one_new _ _ _) bh aK cN aF ?_;intro v' w2 b4 b3 _));go_roundw;refine⟨k+1,cN,by go_num,?_,(hbel.alloc cN _).grown b3 aF (λj h=>(d8.o j h).1)⟩;rw[a5.o,jv,nM];exact b4;exact qN
       . (have c4:g k=false:=by simpa using T);(rw[c4] at V;have f2:=Ty A k false d V;have a5:Hid (l7 g (k+1)=l7 g k):=by unfold Hid;rw[zF,cX T]);clear T c4;go_wp2;go_roundw;exact⟨k+1,cN,by go_num,by rw[a5.o];exact G,hbel⟩;exact qN
     . obtain rfl:k=4096:=cN;have hx:=qW G (Pv g 4096 (eN _)) (ik (sq g 4096) cN);have HX:=cz hx;clear G hx;go_wp2_with fail;(refine(Xx _ _ _ HX.o).mono ?_;have hE:iE (oG (l7 g 4096))=iE g:=tq λn hn=>by unfold oG;rw[wR,qQ,vP];constructor;rintro⟨_,_,R⟩;simpa using R;intro R;exact⟨cN,cN,by simpa using R⟩);rw[hE];clear hE;rintro e w5 ⟨y,rfl,hy,e5⟩;have L:=Below.step hbel Q e5;go_wp2;refine iI (v:=.tuple #[y,.int .i64 0]) (by simp[results,results204,go_sem]) ae ⟨_,by rw[a3.o];rfl,by rw[a3.o];exact hy.mono Q,by rw[a3.o];exact mT.sl hy,L⟩
section
attribute[local irreducible]wpList Code.wp Calls Oper.wp wpAnyH
theorem O7(P D l:Nat)(s:Pl)(h5:s.dv.ops<=990000000)(bs:cV)(g8:bs.n<=100000)(v:c7)(ee:cV)(av:c7)(E:jT (bs.n:Nat)+1<=ee.n)(g7:ee.n<=100000)(e1:∀x∈ee,x<=1000000)(w:cS)(h:fh w P D l s)(R:lM w 5 v bs)(RA:dg w 3 1 av ee.n (qI ee)):
 CP_ 224 #[bW (cu ⟨P,0,cw⟩),v,av] w λe w'=>∃A r,e=cj (cg #[bV A,r,bU cq (gO s bs ee).2.2.2])/\A=cM 3 (dE (gO s bs ee).2.1)/\dD (gO s bs ee).2.1/\ir w' w.h.s r (gO s bs ee).2.2.1/\fQ (gO s bs ee).2.2.1/\fh w' P D l (gO s bs ee).1/\Fr (cu D) [] w w':=by
 obtain⟨bo,d8,rfl,a4,-⟩:=dQ R.1;obtain⟨aa,d,rfl,a3,d9⟩:=dQ RA;obtain⟨ab,ao,rfl⟩:=d9 cN;have HR:=cz R;have h7:=cz RA;have S:=St.start w (cu D) [] (dR P D l s) h;obtain⟨MW,p⟩:=dG (gO s bs ee);rw[p];unfold gO at p;obtain⟨n,d1⟩:=sV (jT (bs.n:Nat));have C1:=cz λW=>Hw (bs.n:Nat) W;rw[d1.o] at C1 E p;obtain⟨o,g9⟩:∃o,ee.n=o+1:=⟨ee.n-1,cN⟩;have e6:ee.n-1=o:=cN;have g1:((ee.n:Nat):Int)-1=((o:Nat):Int):=cN;have U:n<=o:=cN;have h1:o<=d:=cN;have e8:n<=d:=cN;have d6:=cz (show dg w 3 1 (bX (s_ ab ao) n d) (ee.take n).n (qI (ee.take n)) from by
  have H:=dg.take RA (i:=n) cN;rw[sL] at H;unfold qI at H|-;rw[<-map_take] at H;rw[lO,vK cN];exact H)
 obtain⟨da,c9⟩:=sV (lz (s_ ab ao) d n 1);have d7:=cz (show dg w 3 1 (bX da (o-n) (d-n)) ((ee.take o).drop n).n (qI ((ee.take o).drop n)) from by
  have H:=dg.take RA (i:=o) cN;have h8:=dg.CG H (i:=n) U;rw[sL,sL,c9.o] at h8;unfold qI at h8|-;rw[<-map_take,<-map_drop] at h8;rw[uf,lO,vK cN];exact h8)
 obtain⟨N,b4⟩:=dG (ee.getD o 0);have f1:(qI ee)[o]?=cu (.int cq N):=by unfold qI;grind
 have i2:N<=1000000:=by rw[<-b4,zB,jG cN];exact e1 _ (mP _)
 have HQ:=cz λW(f:Fr (cu D) [] w W)=>(RA.fr f (.inr rfl) rfl).cellAt cN f1;have i1:o<=100000:=cN;have h4:o<ee.n:=cN;have h3:(o:Int)<(ee.n:Int):=cN;obtain⟨X,f2⟩:=dG (ee.take n);obtain⟨t2,b7⟩:=dG ((ee.take o).drop n);have a6:∀x∈X,x<=1000000:=by grind
 have e7:∀x∈t2,x<=1000000:=by grind
 have f3:X.n<=100000:=by grind
 have h2:t2.n<=100000:=by grind
 rw[f2] at d6 p;rw[b7] at d7;have C:MW=mw2 (fG s bs X) bs.n ee:=p.symm;have g4:=cz (show∀a,mw2 a bs.n ee=if a.2.2≠0 then(a.1,(cY,([],a.2.2))) else
  match jB (a.1.dv.n:Nat) (kF a.1.mp 2) with
  |none=>(a.1,(cY,([],81)))
  |some sp=>mw3 (fG a.1 sp t2) a.2.1 bs.n sp.n N from λa=>by unfold mw2;rw[e6,d1.o,b7,b4])
 have C2:=cz λW h hr ha=>Ij P D l s cN bs g8 (bX bo bs.n d8) X (bX (s_ ab ao) n d) f3 a6 W h hr ha;have a7:=x7 s bs X;obtain⟨s1,L⟩:=dG ((fG s bs X).1);obtain⟨p1,b3⟩:=dG ((fG s bs X).2.1);obtain⟨c1,a5⟩:=dG ((fG s bs X).2.2);rw[g4.o,a5,L,b3] at C;rw[a5,L,b3] at C2;rw[L] at a7;have b:=cz C;have h6:=cz a6;have f9:=cz e7;clear C p R RA h L b3 a5 e6 g9 f1 b4 f2 b7 e1 a6 e7 E g7 f3 a4 a3 d9;go_enter func224,ntmps224;go_upto_region 3 with(first|refine je S (C1.o _) λW S=>?_|refine Uy Sf rfl rfl (y:=n) e8 ?_|(refine(C2.o _ S.x (HR.o.fr S.fr (.inr rfl) rfl) (d6.o.fr S.fr (.inr rfl) rfl)).mono ?_;rintro e W ⟨A,rfl,ho,g,J,I⟩;have b9:=cz ho;have d2:=cz g;replace S:=S.call I (λD e=>e) eQ (dR P D l s1) (λB h=>J);clear ho g)|refine fu λW S=>?_);by_cases c:c1=0;case neg=>have g3:(c1 !=0)=cx:=fK.2 c;rw[c8 c] at b;have HG:=cz c;clear c;go_wp2_with first|(refine mu ?_;rw[b.o];exact⟨_,_,rfl,iU,dV,ir.nil _ _,dU,S.x,S.fr⟩)|refine fO ?_|refine fu λW S=>?_
 subst c;rw[cX (show¬((0:Int)≠0) from λh=>h rfl)] at b;have f8:=cz S.x.qD;obtain⟨sp,Z⟩:=sV (jB (s1.dv.n:Nat) (kF s1.mp 2));have C3:=cz λr W hr=>Fu (s1.dv.n:Nat) (by have:=f8.o;unfold eT;omega) r (kF s1.mp 2) W hr;rw[Z.o] at C3 b;cases sp with
 |none=>have m:gq 81 (cw:Option cV)=81:=rfl;rw[m] at C3;go_upto_region 6 with(first|(refine(nP P D l _ _ _ S.x.row).mono ?_;rintro e W ⟨rfl,rfl⟩)|(refine(Ag D _ _ S.x.dev).mono ?_;rintro e W ⟨rfl,rfl⟩)|(refine(mD P D l _ _ _ S.x.row).mono ?_;rintro e W ⟨rfl,rfl⟩)|(refine(Ew l _ _ S.x.map).mono ?_;rintro e W ⟨r,rfl,ho,t⟩;have HO:=cz (Mi ho);replace S:=S.cP t;clear ho)|(refine(C3.o _ _ HO.o).mono ?_;rintro e W ⟨r,rfl,ho,t⟩;replace S:=S.cP t;clear ho));go_wp2_with first|(refine mu ?_;rw[b.o];exact⟨_,_,rfl,iU,dV,ir.nil _ _,dU,S.x,S.fr⟩)|refine fO ?_|refine fu λW S=>?_
 |some sp=>
  have m:gq 81 (cu sp)=0:=rfl;rw[m] at C3;simp only[kL] at C3 b;have i3:=O6 Z.o;have g5:=cz (Io Z.o);have C4:=cz λv W h hr ha=>Ij P D l s1 cN sp cN v t2 (bX da (o-n) (d-n)) h2 f9.o W h hr ha;have a8:=x7 s1 sp t2;obtain⟨s2,b5⟩:=dG ((fG s1 sp t2).1);obtain⟨p2,e9⟩:=dG ((fG s1 sp t2).2.1);obtain⟨c2,e4⟩:=dG ((fG s1 sp t2).2.2);unfold mw3 at b;rw[e4,b5,e9] at C4 b;rw[b5] at a8;clear m b5 e9 e4;go_upto_region 9 with(first|(refine(nP P D l _ _ _ S.x.row).mono ?_;rintro e W ⟨rfl,rfl⟩)|(refine(Ag D _ _ S.x.dev).mono ?_;rintro e W ⟨rfl,rfl⟩)|(refine(mD P D l _ _ _ S.x.row).mono ?_;rintro e W ⟨rfl,rfl⟩)|(refine(Ew l _ _ S.x.map).mono ?_;rintro e W ⟨r,rfl,ho,t⟩;have HO:=cz (Mi ho);replace S:=S.cP t;clear ho)|(refine(C3.o _ _ HO.o).mono ?_;rintro e W ⟨r,rfl,ho,t⟩;have Y:=cz (dx ho);replace S:=S.iw t ho rfl rfl;clear ho;obtain⟨ca,cc,rfl⟩:=Y.o)|(refine Sl Sf rfl rfl rfl (y:=n) (k:=o) U h1 ?_;rw[c9.o])|(refine(C4.o _ _ S.x ⟨S.q0,g5.o⟩ (d7.o.fr S.fr (.inr rfl) rfl)).mono ?_;rintro e W ⟨A2,rfl,ho,g,J,I⟩;have c6:=cz ho;have d3:=cz g;replace S:=S.call I (λD e=>e) eQ (dR P D l s2) (λB h=>J);clear ho g)|refine fu λW S=>?_);by_cases c:c2=0;case neg=>have g3:(c2 !=0)=cx:=fK.2 c;rw[c8 c] at b;have HG:=cz c;clear c;go_wp2_with first|(refine mu ?_;rw[b.o];exact⟨_,_,rfl,iU,dV,ir.nil _ _,dU,S.x,S.fr⟩)|refine fO ?_|refine fu λW S=>?_
  subst c;rw[cX (show¬((0:Int)≠0) from λh=>h rfl)] at b;obtain⟨O,a1⟩:=sV (At p1 bs.n p2 sp.n);have C5:=cz (Vj p1 d2.o bs.n cN p2 d3.o sp.n cN);rw[dk b9.o,dk c6.o,a1.o] at C5;simp only[a1.o] at b;cases O with|none=>have m:gq 51 (cw:Option cV)=51:=rfl;rw[m] at C5;go_upto_region 12 with(first|(refine(C5.o _).mono ?_;rintro e W ⟨r,rfl,ho,t⟩;replace S:=S.cP t;clear ho)|refine fO ?_);go_wp2_with (first|(refine mu ?_;rw[b.o];exact⟨_,_,rfl,iU,dV,ir.nil _ _,dU,S.x,S.fr⟩)|refine fO ?_|refine fu λW S=>?_)|some O=>have m:gq 51 (cu O)=0:=rfl;rw[m] at C5;simp only[kL] at C5 b;have b8:=abK a1.o;have g6:=cz b8;have V:gU s2.cR:=S.x.ok.1;have a9:=uA s2 (N:Nat) O;have z:=As V (N:Nat) O b8;have C6:=cz λv W h hv=>Ao P D l s2 cN (N:Nat) (by unfold eT;omega) 5 v O W h hv;obtain⟨s3,b6⟩:=dG ((eY s2 (N:Nat) O).1);obtain⟨q,F⟩:=dG ((eY s2 (N:Nat) O).2.1);obtain⟨c3,e5⟩:=dG ((eY s2 (N:Nat) O).2.2);obtain⟨A3,a2⟩:=fU (cM 3 (dE q));unfold mw4 at b;rw[e5,b6,F] at C6 b;rw[dk a2] at C6;rw[b6] at a9;rw[F] at z;have z:=cz z;have G:=cz a2;clear m b6 F e5 a2 b8 V;go_upto_region 15 with(first|(first|refine jo 87 3 86 (HQ.o _ S.fr) ?_)|(refine(C5.o _).mono ?_;rintro e W ⟨r,rfl,ho,t⟩;have Y:=cz (dx ho);replace S:=S.iw t ho rfl rfl;clear ho;obtain⟨ga,gc,rfl⟩:=Y.o)|(refine(C6.o _ _ S.x ⟨S.q0,g6.o⟩).mono ?_;rintro e WK ⟨rfl,J,I⟩;replace S:=S.call I (λD e=>e) eQ (dR P D l s3) (λB h=>J))|refine fO ?_|refine fu λW S=>?_);by_cases c:c3=0;(case neg=>have g3:(c3 !=0)=cx:=fK.2 c;rw[c8 c] at b;have HG:=cz c;clear c;go_wp2_with first|(refine mu ?_;rw[b.o];exact⟨_,_,rfl,iU,dV,ir.nil _ _,dU,S.x,S.fr⟩)|refine fO ?_|refine fu λW S=>?_);subst c;rw[cX (show¬((0:Int)≠0) from λh=>h rfl)] at b;have C7:=cz λW h=>x6 P D l s3 p1 d2.o (bs.n:Nat) W h;have Q:=sK s3 p1 (bs.n:Nat);obtain⟨b1,e2⟩:=dG (eP s3 p1 (bs.n:Nat));rw[e2] at C7 b Q;obtain⟨s4,y1,l1,c4⟩:=b1;simp only at C7 Q;rw[dk b9.o] at C7;unfold mw5 at b;simp only at b;clear e2;go_upto_region 18 with(first|(refine(C7.o _ S.x).mono ?_;rintro e W ⟨r,r2,rfl,-,F,g,J,I⟩;have f4:=cz (dx F);have d4:=cz g;replace S:=S.um I (λD e=>e) eQ (dR P D l s4) (λB h=>J) F rfl rfl;clear F g;obtain⟨ha,hc,rfl⟩:=f4.o)|refine fO ?_);by_cases c:c4=0;(case neg=>have g3:(c4 !=0)=cx:=fK.2 c;rw[c8 c] at b;have HG:=cz c;clear c;go_wp2_with first|(refine mu ?_;rw[b.o];exact⟨_,_,rfl,iU,dV,ir.nil _ _,dU,S.x,S.fr⟩)|refine fO ?_|refine fu λW S=>?_);subst c;rw[cX (show¬((0:Int)≠0) from λh=>h rfl)] at b;have C8:=cz λW h=>x6 P D l s4 p2 d3.o (sp.n:Nat) W h;have T:=sK s4 p2 (sp.n:Nat);obtain⟨b2,e3⟩:=dG (eP s4 p2 (sp.n:Nat));rw[e3] at C8 b T;obtain⟨s5,y2,l2,c5⟩:=b2;simp only at C8 b T;rw[dk c6.o] at C8;clear e3;go_upto_region 21 with(first|(refine(C8.o _ S.x).mono ?_;rintro e W ⟨r,r2,rfl,-,F,g,J,I⟩;have f5:=cz (dx F);have d5:=cz g;replace S:=S.um I (λD e=>e) eQ (dR P D l s5) (λB h=>J) F rfl rfl;clear F g;obtain⟨ia,ic,rfl⟩:=f5.o)|refine fO ?_);by_cases c:c5=0;(case neg=>have g3:(c5 !=0)=cx:=fK.2 c;rw[c8 c] at b;have HG:=cz c;clear c;go_wp2_with first|(refine mu ?_;rw[b.o];exact⟨_,_,rfl,iU,dV,ir.nil _ _,dU,S.x,S.fr⟩)|refine fO ?_|refine fu λW S=>?_);subst c;rw[cX (show¬((0:Int)≠0) from λh=>h rfl)] at b;go_upto_region 23 with(fail);refine eR S dC [⟨WK.h.s,106,3,dE q⟩] jH λW S=>?_;refine ij 0 (bV A3) rfl (rA (λw h=>h.row 0 rfl) rfl G.o fL) ?_;refine ij 1 (bV A3) rfl (rA (λw h=>h.row 0 rfl) rfl G.o fL) ?_;refine dh 3 _ ?_;refine dh 4 _ ?_;refine kK 2 λK hK=>?_;refine ait S rfl G.o ib cN rfl λWG S=>?_;refine gy hK ?_;refine kK 5 λK hK=>?_;refine Zu S [_,_,_] underlying299 ZD cN cN rfl rfl (by intro v hv;simp only[iX,jL,uH] at hv;rcases hv with rfl|rfl|rfl<;>rfl) rfl λWH S=>?_;refine gy hK ?_;refine kK 6 λK hK=>?_;go_wp2_with fail;refine(Nc [(bX (s_ W.h.s 0) 1 1,[q]),(bX ha l1.n hc,l1),(bX ia l2.n ic,l2)] _ (show(3:Nat)<=1000 by omega) (show 1+(l1.n+(l2.n+0))<=100000 by omega) _ (EM S.k0 rfl (eN 3) (show(3:Nat)<=maxLen by unfold maxLen;omega) λj u hu=>⟨(oF.1 hu).1,by grind⟩) (by intro x hx;simp only[iX,jL,uH] at hx;rcases hx with rfl|rfl|rfl;exact abL S.k1;exact S.q1;exact dg.j8 S.o0)).mono ?_;rintro e WI ⟨r,rfl,ho,t⟩;have f6:=cz (dx ho);replace S:=S.iw t ho rfl rfl;clear ho;obtain⟨ja,jc,rfl⟩:=f6.o;refine gy hK ?_;refine kK 7 λK hK=>?_;refine km S 5 rfl rfl rfl G.o fL (dJ _) λW S=>?_;refine gy hK ?_;refine dh 8 _ ?_;refine dh 9 _ ?_;refine qG ?_;have f7:=cz (show∀v:c7,([(v,[q]),(Value.slice ha l1.n hc,l1),(Value.slice ia l2.n ic,l2)].flatMap Prod.snd)=([q]++l1)++l2 from λv=>by simp);go_wp2_with (refine mu ?_;rw[b.o];exact⟨_,_,rfl,rfl,z.o,by have H:=S.o0;rw[f7.o] at H|-;exact H,λy M=>(by rcases gH.1 M with M|M;rcases gH.1 M with M|M;rw[fS.1 M];exact z.o;exact d4.o y M;exact d5.o y M),S.x,S.fr⟩)
def dM(s:Pl)(l:List cQ):Pl:=l.foldl (λs q=>(pZ s q).1) s
theorem abM(s:Pl)(q:cQ):(pZ s q).1.dv=s.dv:=by grind[pZ]
theorem qj(l:List cQ):∀s,(dM s l).dv=s.dv:=by induction l<;>grind[abM,dM]
theorem Kt{l:List cQ}(a:l[k]?=cu q):dM s (l.take (k+1))=(pZ (dM s (l.take k)) q).1:=by grind[dM,take_add_one]
def gg(s:Pl)(b:ej)(iW:List cQ):Pl×(cQ×(List cQ×Int)):=
 match jh b with
 |none=>(s,(cY,([],151)))
 |some text=>
  if fI (dM s iW).mp<nE text.n (dM s iW).dv.n then(dM s iW,(cY,([],71)))
  else gO {dM s iW with mp:=AL (dM s iW).mp (nE text.n (dM s iW).dv.n:Nat)} text (xk (dM s iW).mp (nE text.n (dM s iW).dv.n:Nat))
theorem abN(h:n<=fI st):Ua (zQ st (n:Nat))=0/\(xk st (n:Nat)).n=n/\∀x∈xk st (n:Nat),x<1024:=by
 have e:zQ st (n:Nat)=cu (iJ st n):=by simp_all[zQ]
 unfold xk Ua;rw[e];exact⟨ae,(zJ st h).2,adz st n⟩
def r5{b:ej}{t:cV}(h:jh b=cu t):∀x∈t,x<256:=by unfold jh at h;split at h;cases h;next u hu=>split at h;cases h;cases h;exact Fm hu
def Sm(P D g:Nat)(s:Pl)(O:s.dv.ops<=990000000)(b:dY)(B:gJ)(hB:B=cM 2 (dO b))(u:fi b.t)(iW:List cQ)(z:fQ iW)(a9:iW.n<=100000)(v:c7)(w:cS)(h:fh w P D g s)(RB:jd w b)(R:ly w v iW):
 CP_ 169 #[bW (cu ⟨P,0,cw⟩),bV B,v] w λe w'=>∃A r,e=cj (cg #[bV A,r,bU cq (gg s b.t iW).2.2.2])/\A=cM 3 (dE (gg s b.t iW).2.1)/\dD (gg s b.t iW).2.1/\ir w' w.h.s r (gg s b.t iW).2.2.1/\fQ (gg s b.t iW).2.2.1/\fh w' P D g (gg s b.t iW).1/\Fr (cu D) [g] w w':=by
 obtain⟨ao,cap,rfl,a7,I⟩:=dQ R;have HR:=cz R;have I:=cz I;have HB:=cz hB;have S:=St.start w (cu D) [g] (dR P D g s) h;have L:=cz λW(f:Fr (cu D) [g] w W)=>Km b B hB u W (RB.fr f);obtain⟨MS,a⟩:=dG (gg s b.t iW);rw[a];have HO:=cz z;unfold gg at a;obtain⟨rb,F⟩:=sV (jh b.t);rw[F.o] at L a;clear hB u z h RB R;go_enter func169,ntmps169;cases rb with
 |none=>have t:gq 151 (cw:Option cV)=151:=rfl;rw[t] at L;have a1:=cz a.symm;clear a;go_wp2_with first|(refine ah (L.o _ S.fr) λr W⟨ho,M⟩=>?_;replace S:=S.cP M)|(refine mu ?_;rw[a1.o];exact⟨_,_,ae,iU,dV,ir.nil _ _,dU,S.x,S.fr⟩)|refine fO ?_|refine fu λW S=>?_
 |some text=>
  have t:gq 151 (cu text)=0:=rfl;rw[t] at L;simp only[kL] at L a;have b1:=Hy F.o;obtain⟨s1,G⟩:=sV (dM s iW);have a5:=cz (show s1.dv=s.dv by rw[<-G.o];exact qj iW s);rw[G.o] at a;obtain⟨E,l⟩:=sV (nE text.n s1.dv.n);rw[l.o] at a;have j:=cz a.symm;clear t a;go_upto_region 5 with(first|(refine ah (L.o _ S.fr) λr W⟨ho,M⟩=>?_;have Y:=cz (dx ho);replace S:=S.iw M ho ae ae;obtain⟨ca,cc,rfl⟩:=Y.o)|refine fO ?_|refine fu λW S=>?_);go_loopw [26] (λi wr=>∃k:Nat,k<=iW.n/\i=bU cq k/\Hid (St w (cu D) [g] [⟨_,106,3,dE cY⟩,⟨_,99,2,dO b⟩] [⟨5,1,bX ca text.n cc,text.n,eo text⟩] (CR P D g (dM s (iW.take k))) wr)) (λi _=>iW.n-(intOf i).m);exact⟨0,cN,ae,cz S⟩;clear S;obtain⟨k,V,rfl,hS⟩:=hrel;by_cases m:k<iW.n
  . (obtain⟨b9,o9,rfl⟩:=I.o cN;obtain⟨q,hq⟩:=dG (iW[k]);obtain⟨A,H⟩:=fU (cM 3 (dE q));have U:=cz (kG iW m (A:=A) (by rw[hq];exact H));have K:iW[k]?=cu q:=by rw[jG m,hq]);have C2:=cz λW h=>Ia P D g (dM s (iW.take k)) q (HO.o q (lu K)) W h;rw[dk H,<-Kt K] at C2;have HA:=cz H;have S:=hS.o;clear hS H hq K;have HK:=cz m;go_wp2_with (first|refine CB (HR.o.fr S.fr ax ae) m (vx HA) U.o ?_|(refine aj (C2.o _ S.x) λW⟨o,u⟩=>?_;replace S:=S.call u (λD e=>by cases e) (λk V=>.inl V) (dR P D g _) (λB h=>o);clear o u)|refine fO ?_|refine fu λW S=>?_);go_roundw;have:=HK.o;exact⟨k+1,cN,by go_num,cz S.pop⟩;have:=HK.o;simp[intOf];omega
  . obtain rfl:k=iW.n:=cN;have S:=hS.o;rw[qp,G.o] at S;clear hS;have C3:=cz λW=>UW ca text.n cc (s1.dv.n:Nat) W;rw[l.o] at C3;have C6:=cz λW h=>count_map g s1.mp W h;have c:=abN (st:=s1.mp) (n:=E);obtain⟨cn,N⟩:=dG (fI s1.mp);rw[N] at C6 j c;clear N;by_cases d:cn<E;have a6:(cn:Int)<(E:Int):=cN;rw[c8 d] at j;clear d c;rotate_left;(have a6:¬(cn:Int)<(E:Int):=cN;rw[cX d] at j;obtain⟨e0,t,e2⟩:=c cN;have a8:E<=20000:=by rw[<-l.o];unfold nE;have h1:=Hx (text.n:Nat);have h2:=Hx (fZ (s1.dv.n:Nat):Nat);omega);(have X:=cz λW h=>adA g s1.mp (E:Nat) aW W h;rw[e0] at X;obtain⟨s2,p⟩:∃s2:Pl,{s1 with mp:=AL s1.mp (E:Nat)}=s2:=⟨_,ae⟩;have C:s2.dv=s1.dv:=by rw[<-p]);(have a4:=cz p;obtain⟨ml,J⟩:=dG (xk s1.mp (E:Nat));rw[J] at X t e2;rw[p,J] at j;have y:jT (text.n:Nat)+1<=ml.n:=by rw[t,<-l.o];unfold nE;omega);have C5:=cz λv av W h hr ha=>O7 P D g s2 (by rw[C,a5.o];exact O) text cN v ml av y cN (λx hx=>by have:=e2 x hx;omega) W h hr ha;rw[<-j.o] at C5;have Z:=cz (r5 F.o);clear c d e0 t e2 p C J y
    all_goals
     go_wp2_with first|(refine(nP P D g _ _ _ S.x.row).mono ?_;rintro e W ⟨rfl,rfl⟩)|(refine(Ag D _ _ S.x.dev).mono ?_;rintro e W ⟨rfl,rfl⟩)|refine je S (C3.o _) λW S=>?_|(refine(mD P D g _ _ _ S.x.row).mono ?_;rintro e W ⟨rfl,rfl⟩)|(go_at_call 61;refine mG (C6.o _ S.x.map) ?_)|(go_at_call 223;refine ah (X.o _ S.x.map) λv W⟨ho,hm,M⟩=>?_;have o:=S.x.ahU M hm;replace S:=S.um o.2 (λD e=>by cases e) (λk V=>.inl V) (dR P D g s2) (λB h=>by rw[<-a4.o];exact o.1) ho ae ae;clear hm o)|(go_at_call 224;refine(C5.o _ _ _ S.x ⟨S.q1,Z.o⟩ S.q0).mono ?_;rintro e W ⟨A,r,rfl,H,T,ho,Q,o,u⟩;have HA:=cz H;have a3:=cz T;have a2:=cz Q;replace S:=S.um u aw eQ (dR P D g _) (λB h=>o) ho ae ae;clear H T Q o u)|refine fO ?_|refine fu λW S=>?_|(refine mu ?_;rw[j.o];exact⟨_,_,ae,iU,dV,ir.nil _ _,dU,S.x,S.fr⟩)|(refine mu ?_;exact⟨_,_,ae,ae,a3.o,S.o0,a2.o,S.x,S.fr⟩)
theorem aj8(h:bs.n=2):sC [2] bs=cu [jM bs]:=by unfold sC;simp_all[py,nV,okW,sX]
theorem aiL(h:bs.n=2)(c:∀x∈bs,x<256):jM bs<65536:=by
 obtain⟨a,b,rfl⟩:∃a b,bs=[a,b]:=by
  match bs,h with
  | [a,b],_=>grind
 have d:=c a eQ;have e:=c b eQ;grind[jM]
def fj.nil(w:cS):fj w (bX cw 0 0) []:=⟨cw,0,ae,by simp,by simp,by simp⟩
def pH(fg:Int)(b:cV):Option (List (Int×Int)):=
 if fZ fg=0∨b.n≠fZ fg then cw else
 if(fZ fg-2)/5<jM (b.take 2) then cw else
 (AG (dN ((b.take (2+5*jM (b.take 2))).drop 2))).bind λms=>(uO [] ms).bind λset=>(jB fg set).bind λt=>if t=b then cu set else cw
def Nd(fg:Int)(J:eT fg)(v:c7)(b:cV)(V:∀x∈b,x<256)(w:cS)(R:dg w 5 1 v b.n (eo b)):
 CP_ 152 #[bU cq fg,v] w λe w'=>∃r,e=cj (cg #[r,bU cq (gq 81 (pH fg b))])/\mT w' w.h.s r ((pH fg b).getD [])/\fj w' r ((pH fg b).getD [])/\dS w w':=by
 obtain⟨ao,cap,rfl,F,F⟩:=dQ R;have HR:=cz R;have q:=cz V;obtain⟨T,c⟩:=dG (pH fg b);rw[c];unfold pH at c;obtain⟨n,I⟩:=dG (fZ fg);have F:=DQ fg;have H:=Ik fg;rw[I] at F H c;have H:=cz I;have S:=qP w;clear R V;go_enter func152,ntmps152;by_cases F:n=0
 . (rw[c8 (.inl F)] at c;subst c;have I:((n:Int)==0)=cx:=by rw[wX];omega);clear F;go_wp2_with (refine(lH fg _).mono ?_;rintro e W' ⟨rfl,rfl⟩;rw[H.o]);go_ret2;exact amd
 have I:((n:Int)==0)=cy:=by rw[lr];omega
 by_cases U:b.n=n
 case neg=>
  rw[c8 (.inr U)] at c;subst c;have I:(((b.n:Nat):Int)!=((n:Nat):Int))=cx:=by rw[fK];omega
  clear F U;go_wp2_with (refine(lH fg _).mono ?_;rintro e W' ⟨rfl,rfl⟩;rw[H.o]);go_ret2;exact amd
 have I:(((b.n:Nat):Int)!=((n:Nat):Int))=cy:=by rw[vL];omega
 rw[cX (by intro h;rcases h with h|h;exact F h;exact h U)] at c;have I:2<=b.n:=cN;have F:=cz (show dg w 5 1 (bX ao 2 cap) 2 (eo (b.take 2)) from by have g:=dg.take HR.o (i:=2) I;rwa [sL,ux] at g);have M:=cz λv u W hv V hc=>J1 v u [2] (b.take 2) kM W hv V hc;have I:(b.take 2).n=2:=by rw[lO];omega
 have Z:=aiL I (λx hx=>q.o x (lP hx));rw[aj8 I] at M;have Q:gq 21 (cu [jM (b.take 2)])=0:=rfl;rw[Q] at M;simp only[kL] at M;obtain⟨d,Y⟩:=dG (jM (b.take 2));rw[Y] at M c Z;have a8:=cz (show∀y∈dN [2],(Lit.int cq y).wf=cx by decide);obtain⟨Z,X⟩:=dG ((n-2)/5);rw[X] at c;have N:((n:Int)-2).tdiv 5=(Z:Int):=by rw[<-X,Int.tdiv_eq_ediv_of_nonneg cN];omega
 have N:Z<=513:=cN;have N:=cz U;clear Q I Y U;go_upto_region 5 with(first|(refine(lH fg _).mono ?_;rintro e W' ⟨rfl,rfl⟩;rw[H.o])|refine mF S cq (dN [2]) qq uW cN cN rfl rfl rfl λW S=>?_|refine Uy vg ae ae (y:=2) cN ?_|(refine ah (M.o _ _ _ (eU.row S.k0 ae (show(1:Nat)<=_ by omega) a8.o) (F.o.cP S.b |>.ve (λx hx=>q.o x (lP hx))) ⟨_,_,_,ae,cN⟩) λr W⟨ho,a⟩=>?_;obtain⟨H,F,rfl⟩:=U7 ho;replace S:=S.iw a ho ae ae;clear ho a));replace S:St w cw [] _ [⟨82,1,bX (s_ H 0) 1 F,1,K1 [d]⟩] _ _:=S;by_cases m:Z<d;rw[c8 m] at c;subst c;rotate_left;rw[cX m] at c;obtain⟨o,G⟩:=dG (2+5*d);rw[G] at c;have F:(2:Int)+5*(d:Int)=(o:Int):=cN;have A:2<=o:=cN;have F:o<=n:=cN;have F:o<=cap:=by have:=N.o;omega
 have H:IntKind.i64.wrap (5*(d:Int))=5*(d:Int):=kX _ cN;have s:=cz (show dg w 5 1 (bX (lz ao cap 2 1) (o-2) (cap-2)) (o-2) (eo ((b.take o).drop 2)) from by
  have g:=dg.CG (dg.take HR.o (i:=o) (by have:=N.o;omega)) (i:=2) A
  rwa [sL,sL,ux,xt] at g)
 obtain⟨N,H⟩:=dG ((b.take o).drop 2);have p:=cz (show∀x∈N,x<256 by rw[<-H];exact λx hx=>q.o x (lP (mR hx)));rw[H] at s c;have C:=cz λu W V hc=>aeu u (dN N) W V hc;obtain⟨rs,I⟩:=dG (AG (dN N));rw[I] at C c;have N:=cz G;have N:decide (Z<d)=cy:=jC m;clear I H m G;rcases rs with _|ms;rw[Option.bind_none] at c;subst c;have I:PH (cw:Option (List kV))=81:=rfl;rw[I] at C;rotate_left;rw[xA] at c;have I:PH (cu ms)=0:=rfl;rw[I] at C;simp only[kL] at C;have D:=cz λv u W hv V=>Yf v u [] ms W hv V;obtain⟨N,H⟩:=dG (uO [] ms);rw[H] at D c;clear H I;rcases N with _|set;rw[Option.bind_none] at c;subst c;have t:WJ (cw:Option (List (Int×Int)))=81:=rfl;rw[t] at D;rotate_left;rw[xA] at c;have t:WJ (cu set)=0:=rfl;rw[t] at D;simp only[kL] at D;have E:=cz λv W hv=>Fu fg J v set W hv;obtain⟨K,J⟩:=dG (jB fg set);rw[J] at E c;have H:=cz J;clear J t;rcases K with _|K
 . rw[Option.bind_none] at c;subst c;have t:gq 81 (cw:Option cV)=81:=rfl;rw[t] at E;go_wp2_with (first|(refine mf dC ?_;refine jF (v:=bU ct d) (by have g:=S.q0.cellAt (j:=0) (u:=bU ct d) cN ae;exact g) ae gi ?_)|refine jF (v:=bU ct d) (by have g:=S.q0.cellAt (j:=0) (u:=bU ct d) cN ae;exact g) ae gi ?_|refine Sl vg ae ae ae (y:=2) (k:=o) A F ?_|(refine ah (C.o _ _ (s.o.cP S.b |>.ve p.o) ⟨_,_,_,ae,cN⟩) λr W⟨f,a⟩=>?_;have O:=cz f;replace S:=S.cP a;clear f a)|(refine ah (D.o _ _ _ (fj.nil _) O.o) λr W⟨ho,f,a⟩=>?_;have L:=cz f;replace S:=S.iw a ho ae ae;clear f a ho)|(refine ah (E.o _ _ L.o) λr W⟨ho,a⟩=>?_;replace S:=S.cP a;clear ho a));go_ret2;exact amd
 rw[xA] at c;have t:gq 81 (cu K)=0:=rfl;rw[t] at E;simp only[kL] at E;have I:=cz (Io H.o);have H:=cz λv u W J N=>DP v u K b 5 5 K.n b.n I.o q.o W J N;obtain⟨B,l⟩:=dG (decide (K=b));rw[l] at H;have z:T=if B=cx then cu set else cw:=by rw[<-c,<-l];by_cases h:K=b<;>simp[h]
 clear c t l;rcases B with _|_
 . rw[cX kM] at z;subst z;go_wp2_with (first|(refine mf dC ?_;refine jF (v:=bU ct d) (by have g:=S.q0.cellAt (j:=0) (u:=bU ct d) cN ae;exact g) ae gi ?_)|refine jF (v:=bU ct d) (by have g:=S.q0.cellAt (j:=0) (u:=bU ct d) cN ae;exact g) ae gi ?_|refine Sl vg ae ae ae (y:=2) (k:=o) A F ?_|(refine ah (C.o _ _ (s.o.cP S.b |>.ve p.o) ⟨_,_,_,ae,cN⟩) λr W⟨f,a⟩=>?_;have O:=cz f;replace S:=S.cP a;clear f a)|(refine ah (D.o _ _ _ (fj.nil _) O.o) λr W⟨ho,f,a⟩=>?_;have L:=cz f;replace S:=S.iw a ho ae ae;clear f a ho)|(refine ah (E.o _ _ L.o) λr W⟨ho,a⟩=>?_;replace S:=S.iw a ho ae ae;clear ho a)|refine mG (H.o _ _ _ S.q0 (HR.o.cP S.b)) ?_);go_ret2;exact amd
 rw[c8 ae] at z;subst z
 all_goals
  go_wp2_with first|(refine mf dC ?_;refine jF (v:=bU ct d) (by have g:=S.q0.cellAt (j:=0) (u:=bU ct d) cN ae;exact g) ae gi ?_)|refine jF (v:=bU ct d) (by have g:=S.q0.cellAt (j:=0) (u:=bU ct d) cN ae;exact g) ae gi ?_|refine Sl vg ae ae ae (y:=2) (k:=o) A F ?_|(go_at_call 203;refine ah (C.o _ _ (s.o.cP S.b |>.ve p.o) ⟨_,_,_,ae,cN⟩) λr W⟨f,a⟩=>?_;have O:=cz f;replace S:=S.cP a;clear f a)|(refine ah (D.o _ _ _ (fj.nil _) O.o) λr W⟨ho,f,a⟩=>?_;have L:=cz f;replace S:=S.iw a ho ae ae;clear f a ho)|(go_at_call 205;refine ah (E.o _ _ L.o) λr W⟨ho,a⟩=>?_;have F:=cz (L.o.cP a);replace S:=S.iw a ho ae ae;clear ho a)|(go_at_call 32;refine mG (H.o _ _ _ S.q0 (HR.o.cP S.b)) ?_)
  go_ret2
  first|exact amd|exact⟨_,rfl,S.o1,F.o,S.b⟩
attribute [local go_sem] Oper.semAt_some
def ZF(Q:Exit->Act->cS->Prop):Exit->Act->cS->Prop
 | .normal,a,w=>Q .normal a w
 |_,_,_=>False
def DX(h:Q .normal a w):ZF Q .normal a w:=h
def abO:¬LetsOut (ZF Q):=λ⟨_,_,h⟩=>h
def Yg{F:Fence}(b:Open F){ops:List Oper}(S:St w0 d l L O X w){id:Nat}(f:P.follows .mixedOrders=cx)(c:Hd ops=cx)(h:∀W,St w0 d l L O X W->wpAnyH P .any ops.toArray (ZF Q) (SE w0 d l L O) ops.toArray.s (Array.replicate ops.toArray.s cy) a W):(Code.region id ops.toArray cx).wpIn F n P Q a w:=
 Code.wpIn_mono (Q:=ZF Q) (λe a w h=>by cases e<;>first|exact h|exact h.elim) (Ak b S f c abO h)
def aiM:lD prog 103:=⟨⟨_,underlying103,ae⟩,dC⟩
instance inbdb10 :rk 103:=⟨aiM⟩
def abP(l:List dL)(a:Nat)(b:List (Fin l.n)):Nat:=(b.filter λz=>decide ((l.get z).cZ=a)).n
theorem Qo(l:List dL)(a:Nat)(b:List (Fin l.n))(z:Fin l.n):abP l a (b++[z])=if(l.get z).cZ=a then abP l a b+1 else abP l a b:=by unfold abP;grind
def jN(l:List du)(s:du):Bool:=
 if s.dz=cy then cx else
 match fp l s.cZ with
 |none=>cy
 |some i=>if(dH l i).dz=cx then cy else decide (((l.filter λx=>decide (x.dB=s.id)).filter λx=>decide (x.cZ=s.cZ)).n=1)
def Nf{l:List dL}{s:du}{x:dL}(b:s.dz=cx)(a:fp (ez l) s.cZ=cu i)(c:l[i]?=cu x):jN (ez l) s=if x.dz=cx then cy else decide (abP l s.cZ (rY l s.id l.n)=1):=by unfold jN;rw[a,b];simp only[cX (show¬(cx=cy) by decide)];rw[lG c,EK,filter_map,mQ];rfl
def O8(l:List dL)(v:c7)(hl:l.n<=1000000)(s:dL)(a c:Nat)(w:cS)(R:gC w v l)(H:nD w a c s):
 CallsIn Fence.wide 5 prog 201 #[v,bW (cu ⟨a,c,cw⟩)] w λe w'=>e=cj (bZ (jN (ez l) s.todu))/\dS w w':=by
 obtain⟨ao,cap,rfl,a3,r⟩:=dQ R.1;have r:=cz r;have C:=cz λW(E:dS w W)=>uu l _ s.cZ hl W (R.cP E);have S:=qP w;obtain⟨T,L⟩:=dG (jN (ez l) s.todu);rw[L];refine callsIn_of_wp_marks func201 ae iC ?_ ae;simp only[ntmps201,Ay,lq,ue,reduceAdd,reduceSub,Az,vH,vI,vJ,pL,uG];cases p:s.dz with
 |false=>
  obtain rfl:cx=T:=by rw[<-L];unfold jN;rw[c8 p]
  skip
  gi_upto_region 0 with fail
  refine ke sM dC vy ?_
  go_wp2_with refine fu λW S=>?_
  gi_upto_region 1 with fail
  refine ke sM dC vy ?_
  go_wp2_with first|refine jl 8 103 3 S 0 0 (dF a c) ?_|refine jF (v:=bZ cy) (by rw[<-p];exact bQ) ae tX ?_
  gi_wp2
  exact⟨bZ cx,by simp[results,f201,go_sem],ae,S.b⟩
 |true=>
  cases j:fp (ez l) s.cZ with
  |none=>
   rw[j] at C;obtain rfl:cy=T:=by rw[<-L];unfold jN;rw[j,p];rfl
   simp only[lF] at C
   gi_upto_region 0 with fail
   refine ke sM dC vy ?_
   go_wp2_with refine fu λW S=>?_
   gi_upto_region 1 with fail
   refine ke sM dC vy ?_
   go_wp2_with first|refine jl 8 103 3 S 0 0 (dF a c) ?_|refine jF (v:=bZ cx) (by rw[<-p];exact bQ) ae tX ?_
   gi_upto_region 3 with fail
   refine Yg sM S dC dC λW S=>?_;refine dh 0 (bX ao l.n cap) ?_;refine dh 1 (dF a c) ?_;refine dh 2 (dF a c) ?_;refine dh 3 (dF a (c+3)) ?_;refine ij 4 (bU ct s.cZ) ae (gW (λw h=>by obtain⟨_,S⟩:=h;exact(H.cP S.b).c3) ae gi) ?_;refine kK 5 λK n=>?_
   go_wp2_with fail
   refine je S (C.o _ S.b) λW S=>?_;refine gy n ?_;refine dh 6 _ ?_;refine qG ?_;refine DX ?_
   gi_wp2
   exact⟨bZ cy,by simp[results,f201,go_sem],ae,S.b⟩
  |some i=>
   obtain⟨a7,x,hx,-⟩:=kP j;have d:=Nf p j hx;rw[L] at d;rw[j] at C;simp only[lF] at C;obtain⟨b,o,rfl⟩:=r.o cN;have HX:=cz (R.at hx);have a5:(i:Int)<(l.n:Int):=cN;have a6:¬(i:Int)<0:=cN
   gi_upto_region 0 with fail
   refine ke sM dC vy ?_
   go_wp2_with first|refine DD S (v:=bX (s_ b o) l.n cap) rfl rfl rfl λWA S=>?_|refine DD S (v:=dF a c) rfl rfl rfl λWB S=>?_
   gi_upto_region 1 with fail
   refine ke sM dC vy ?_
   go_wp2_with first|refine jl 8 103 3 S 0 0 (dF a c) ?_|refine jF (v:=bZ cx) (by rw[<-p];exact bQ) ae tX ?_
   gi_upto_region 3 with fail
   refine Yg sM S dC dC λW S=>?_;refine dh 0 (bX (s_ b o) l.n cap) ?_;refine dh 1 (dF a c) ?_;refine dh 2 (dF a c) ?_;refine dh 3 (dF a (c+3)) ?_;refine ij 4 (bU ct s.cZ) ae (gW (λw h=>by obtain⟨_,S⟩:=h;exact(H.cP S.b).c3) ae gi) ?_;refine kK 5 λK n=>?_
   go_wp2_with fail
   refine aj (C.o _ S.b) λWK E=>?_;replace S:=S.cP E;refine gy n ?_;refine dh 6 _ ?_;refine qG ?_;refine DX ?_;obtain⟨px,u⟩:=dG x.dz;rw[u] at d;cases px with
   |true=>
    obtain rfl:T=cy:=d
    gi_upto_region 4 with fail
    refine ke sM dC vy ?_
    go_wp2_with first|refine jm 22 97 2 S 1 0 (bX (s_ b o) l.n cap) ?_|(refine mf dC ?_;refine jF (v:=bZ cx) (by rw[<-u];exact(HX.o.cP S.b).c2) ae tX ?_)
    gi_wp2
    exact⟨bZ cy,by simp[results,f201,go_sem],ae,S.b⟩
   |false=>
    rw[cX (show¬(cy=cx) by decide)] at d;have HT:=cz d;clear d
    gi_upto_region 4 with fail
    refine ke sM dC vy ?_
    go_wp2_with first|refine jm 22 97 2 S 1 0 (bX (s_ b o) l.n cap) ?_|(refine mf dC ?_;refine jF (v:=bZ cy) (by rw[<-u];exact(HX.o.cP S.b).c2) ae tX ?_)
    gi_upto_region 6 with fail
    refine ke sM dC vy ?_
    go_wp2_with first|refine AS S zeroValue3 rfl rfl λWC S=>?_|refine vC S 0 rfl 0 (v:=bU cq 0) rh rfl rfl rfl Dy λW S=>?_
    gi_upto_region 7 with fail
    refine Yg sM S dC dC λW S=>?_;refine dh 0 (bX (s_ b o) l.n cap) ?_;refine dh 1 (dF a c) ?_;refine dh 2 (dF a c) ?_;refine dh 3 (dF a c) ?_;refine ij 4 (bU ct s.id) ae (gW (λw h=>by obtain⟨_,S⟩:=h;exact(H.cP S.b).c0) ae gi) ?_;refine kK 5 λK n=>?_
    go_wp2_with fail
    refine aj (DS (s_ b o) l.n cap s.id _) λN hW=>?_;have HB:=cz (DT hW);have S0:=cz S;replace S:=S.cP HB.o.1;refine gy n ?_;refine qG ?_;refine DX ?_
    gi_wp2
    clear S;have S:St w cw [] [⟨WK.h.s,3,1,λ_=>bU cq (((0:Nat):Int))⟩,⟨WA.h.s,103,1,λ_=>dF a c⟩,⟨w.h.s,97,1,λ_=>bX (s_ b o) l.n cap⟩] [] (λ_ _=>True) W:=S0.o.xO (k:=0) ae (g:=λ_=>bU cq ((0:Nat):Int)) λi G=>by have G:i<1:=G;obtain rfl:i=0:=cN;rfl
    obtain⟨E,V,U,Z,d,a9⟩:=HB.o;have F:iy w b=cu 109:=dg.ty R.1 ae cN;have X:∀k∈ [W.h.s,W.h.s+1]++(Value.slice (s_ b o) l.n cap).ownBlock.t,(W.h.s<=k∨k<w.h.s)/\∃t,iy N k=cu t/\lQ t=cy/\gZ t=cy:=by
     intro k f;simp only[Value.ownBlock,LD,uG,pL,iX,jL,uH] at f;rcases f with rfl|rfl|rfl
     . exact⟨.inl (eN _),_,Z,ae,ae⟩
     . exact⟨.inl (yr _),_,d,ae,ae⟩
     . exact⟨.inr (iA F),_,vZ (vZ F S.b) E,ae,ae⟩
    replace S:=S.UH E X;have Q:=S.x.2;have b1:w.h.s<=N.h.s:=S.fr.size;refine wpIn_rangeFunc_ownF ae cN (gf:=232) (lb:=#[dF W.h.s 0,dF (W.h.s+1) 0]) ae iC (enters_of func232 dC ae)
     (Gt 4 W.h.s (W.h.s+1) _ l s.id hl N (R.cP S.b) V U) np.trans (np.wZ λk f=>let⟨_,h1,_⟩:=(Q k f).2;iA h1) (gK _ _) (λ_=>ae)
     (λA M=>∃y:Nat,Hid (y=abP l s.cZ A/\y<=A.n)/\St w cw [] [⟨WK.h.s,3,1,λ_=>bU cq ((y:Nat):Int)⟩,⟨WA.h.s,103,1,λ_=>dF a c⟩,⟨w.h.s,97,1,λ_=>bX (s_ b o) l.n cap⟩] [] (λB w=>True/\Tj ([W.h.s,W.h.s+1]++(Value.slice (s_ b o) l.n cap).ownBlock.t) B w) M)
     (λ_ _ _=>False)
     (rV S.fr.size _ _ _ _ λ_ _=>lT.t.and (lT.av _)) (λ_ _ _ _ _ p _ _=>p)
     ⟨0,cz ⟨ae,eN _⟩,S⟩ ?a1 ?assign ?body ?done ?stop
    case assign=>
     intro lp z M K n
     gi_wp2
     exact n
    case body=>
     clear S;rintro lp A z W0 ⟨m,j,S⟩ a4;replace S:=S.eS;have J:=j.o.2;have I:=cz j.o.1;obtain⟨y,q⟩:=sV (l.get z);have a2:l[z.val]?=cu y:=by rw[jG z.isLt,<-q.o];rfl
     have HY:=cz (R.at a2);have b2:=z.isLt;have hz:(z.val:Int)<(l.n:Int):=cN;have a8:m<=1000000:=cN;rcases Bv (y.cZ=s.cZ) with he|he
     . have Y:(((y.cZ:Nat):Int)==((s.cZ:Nat):Int))=cx:=by rw[wX];omega
       skip
       gi_wp2
       refine Ak sM S dC dC vy λW S=>?_;refine dh 0 (bX (s_ b o) l.n cap) ?_;refine dh 1 _ ?_;refine dh 2 (dF b (o+z.val*11)) ?_;refine dh 3 (dF b (o+z.val*11+3)) ?_;refine ij 4 (bU ct y.cZ) ae (gW (λw h=>by obtain⟨_,S⟩:=h;exact(HY.o.cP S.b).c3) ae gi) ?_;refine dh 5 (dF a c) ?_;refine dh 6 (dF a c) ?_;refine dh 7 (dF a (c+3)) ?_;refine ij 8 (bU ct s.cZ) ae (gW (λw h=>by obtain⟨_,S⟩:=h;exact(H.cP S.b).c3) ae gi) ?_;refine dh 9 (bZ cx) ?_;refine qG ?_
       gi_upto_region 10 with fail
       refine ke sM dC vy ?_
       go_wp2_with first|refine jl 45 3 6 S 0 0 (bU cq m) ?_|refine vC S 0 rfl 0 (v:=bU cq ((m+1:Nat):Int)) rh rfl rfl rfl Dy λW S=>?_
       gi_wp2
       have f:=S.kept (xl.still (kH _));refine⟨f.1,f.2.1,m+1,cz ⟨by rw[Qo,<-I.o,q.o,c8 he],by rw[jv];exact succ_le_succ J⟩,?_⟩;exact(f.2.2.xO (k:=0) ae (g:=λ_=>bU cq ((m+1:Nat):Int)) λi G=>by have G:i<1:=G;obtain rfl:i=0:=cN;rfl).EH (λ_ _ h=>h.2) (kH _).me
     . have Y:(((y.cZ:Nat):Int)==((s.cZ:Nat):Int))=cy:=by rw[lr];omega
       skip
       gi_wp2
       refine Ak sM S dC dC vy λW S=>?_;refine dh 0 (bX (s_ b o) l.n cap) ?_;refine dh 1 _ ?_;refine dh 2 (dF b (o+z.val*11)) ?_;refine dh 3 (dF b (o+z.val*11+3)) ?_;refine ij 4 (bU ct y.cZ) ae (gW (λw h=>by obtain⟨_,S⟩:=h;exact(HY.o.cP S.b).c3) ae gi) ?_;refine dh 5 (dF a c) ?_;refine dh 6 (dF a c) ?_;refine dh 7 (dF a (c+3)) ?_;refine ij 8 (bU ct s.cZ) ae (gW (λw h=>by obtain⟨_,S⟩:=h;exact(H.cP S.b).c3) ae gi) ?_;refine dh 9 (bZ cy) ?_;refine qG ?_
       gi_wp2
       have f:=S.kept (xl.still (kH _));refine⟨f.1,f.2.1,m,cz ⟨by rw[Qo,<-I.o,q.o,cX he],by rw[jv];exact le_succ_of_le J⟩,f.2.2⟩
    case done=>
     clear S;rintro D ys W0 hD rfl ⟨m,j,S⟩ n;have O:T=decide (m=1):=by rw[HT.o,<-j.o.1]
     skip
     gi_upto_region 11 with fail
     gi_upto_region 11 with fail
     refine ke sM dC vy ?_
     go_wp2_with refine jl 47 3 6 S 0 0 (bU cq m) ?_
     gi_wp2
     refine DU S (lT.t.and (lT.av _)) cN n λM S=>?_;have e9:(((m:Nat):Int)==1)=T:=by rw[O];by_cases h:m=1<;>simp[h];omega
     exact⟨bZ T,by rw[<-e9];simp[results,f201,go_sem],ae,S.b⟩
    case stop=>
     rintro _ _ _ _ _ _ h _;exact h.elim
def Ng(l:List dL)(v:c7)(c:l.n<=1000000)(s:dL)(a b:Nat)(w:cS)(R:gC w v l)(H:nD w a b s):
 sW 201 #[v,bW (cu ⟨a,b,cw⟩)] w (bZ (jN (ez l) s.todu)):=uh.1 (O8 l v c s a b w R H)
def kz(l:List du)(s:du):Bool:=
 if s.dB=0 then s.df.all λq=>decide (q.2.1<=0) else
 match fp l s.dB with
 |none=>cy
 |some i=>(dH l i).dz&& !(s.dz&&decide (s.cR<=(dH l i).cR))&&s.df.all λq=>decide (q.2.1<=(dH l i).cR)
def Nh(l:List dL)(v:c7)(N:l.n<=1000000)(s:dL)(F:s.df.n<=1000000)(F I:Nat)(w:cS)(R:gC w v l)(H:nD w F I s)(J:za w s):
 sW 200 #[v,bW (cu ⟨F,I,cw⟩)] w (bZ (kz (ez l) s.todu)):=by
 obtain⟨ao,cap,rfl,X,K⟩:=dQ R.1;have K:=cz K;have z:=cz λW(F:dS w W)=>uu l _ s.dB N W (R.cP F);have S:=qP w;obtain⟨T,U⟩:=dG (kz (ez l) s.todu);rw[U];have f:=J;unfold za at f;obtain⟨F,F,B,F,e⟩:=dQ f;rw[B] at f;have e:=cz e;go_enter func200,ntmps200;by_cases D:s.dB=0
 . (have c:T=s.df.all λq=>decide (q.2.1<=0):=by rw[<-U];unfold kz;rw[c8 D]);have G:=cz c;clear c;go_upto_region 10 with(first|(refine jF ((H.cP S.b).c4) ae gi ?_;rw[D])|(refine jF ((H.cP S.b).c10) ae ox ?_;rw[B]));have S:=cz S;go_loopw [52] (λi wr=>∃k:Nat,k<=s.df.n/\i=bU cq k/\Hid ((∀j(h:j<s.df.n),j<k->(s.df[j]).2.1<=0)/\St w cw [] [] [] (λ_ _=>True) wr)) (λi _=>s.df.n-(intOf i).m);exact amB;obtain⟨k,Y,rfl,hS⟩:=hrel;by_cases a:k<s.df.n
   . obtain⟨V,o9,e⟩:=e.o cN;obtain⟨q,g⟩:=dG (s.df[k]);obtain⟨A,I⟩:=fU (cM 3 (dE q));have d:=cz (kG s.df a (A:=A) (by rw[g];exact I));have F:=cz I;have S:=hS.o.2;have L:=cz hS.o.1;have O:(k:Int)<(s.df.n:Int):=cN;subst e;by_cases m:q.2.1<=0
     . have u:¬(0:Int)<(q.2.1:Int):=cN;go_wp2_with (first|refine jl 57 82 56 S 0 1 (bU ct q.2.1) ?_|refine CB (f.cP S.b) a (vx F) d.o ?_|refine fu λW S=>?_);go_roundw
       case rel=>exact⟨k+1,cN,by go_num,cz ⟨λj h p=>by
        rcases Df.1 p with h1|rfl
        . exact L.o j h h1
        . rw[g];exact m,S.pop⟩⟩
       case measure=>exact qN
     . (have u:(0:Int)<(q.2.1:Int):=cN;have t:T=cy:=by rw[G.o];exact Lz.2 λh=>by have:=rJ.1 h q am1;exact m (by simpa using this));skip;go_wp2_with (first|refine jl 57 82 56 S 0 1 (bU ct q.2.1) ?_|refine CB (f.cP S.b) a (vx F) d.o ?_|refine fu λW S=>?_);go_ret;rw[t];exact az
   . (obtain rfl:k=s.df.n:=cN;have S:=hS.o.2;have n:T=cx:=by rw[G.o];exact rJ.2 λq g=>by obtain⟨j,p,rfl⟩:=xz.1 g;simpa using hS.o.1 j p p);go_wp2;go_ret;rw[n];exact az
 . have J:(((s.dB:Nat):Int) !=0)=cx:=by rw[fK];omega
   cases Q:fp (ez l) s.dB with
   |none=>(rw[Q] at z;simp only[lF] at z;obtain rfl:cy=T:=by rw[<-U];unfold kz;rw[cX D,Q]);skip;go_wp2_with (first|(first|refine jo 12 82 11 ((H.cP S.b).c4) ?_|refine jo 18 82 17 ((H.cP S.b).c4) ?_)|refine je S (z.o _ S.b) λW S=>?_);go_ret;exact az
   |some i=>
    obtain⟨J,x,Z,-⟩:=kP Q;have c:T=(x.dz&& !(s.dz&&decide (s.cR<=x.cR))&&s.df.all λq=>decide (q.2.1<=x.cR)):=by
     rw[<-U];unfold kz;rw[cX D,Q];simp only;rw[lG Z]
    rw[Q] at z;simp only[lF] at z;obtain⟨b,o,rfl⟩:=K.o cN;have J:=cz (R.at Z);have N:(i:Int)<(l.n:Int):=cN;have N:¬(i:Int)<0:=cN;obtain⟨xs,y⟩:=dG x.dz;obtain⟨ss,E⟩:=dG s.dz;rw[y,E] at c;cases xs with
    |false=>
     obtain rfl:T=cy:=by rw[c];rfl
     clear c
     go_wp2_with first|(first|refine jo 12 82 11 ((H.cP S.b).c4) ?_|refine jo 18 82 17 ((H.cP S.b).c4) ?_)|refine je S (z.o _ S.b) λW S=>?_|(refine mf dC ?_;refine jF (v:=bZ cy) (by rw[<-y];exact(J.o.cP S.b).c2) ae tX ?_)
     go_ret;exact az
    |true=>
     obtain⟨r,C⟩:=dG x.cR;rw[C] at c;cases ss with
     |false=>
      have G:=cz (show T=s.df.all λq=>decide (q.2.1<=r) by rw[c];simp);clear c
      go_upto_region 10 with(first|(first|refine jo 12 82 11 ((H.cP S.b).c4) ?_|refine jo 18 82 17 ((H.cP S.b).c4) ?_)|refine je S (z.o _ S.b) λW S=>?_|(refine mf dC ?_;refine jF (v:=bZ cx) (by rw[<-y];exact(J.o.cP S.b).c2) ae tX ?_)|(refine jF ((J.o.cP S.b).c5) ae gi ?_;rw[C])|refine jF (v:=bZ cy) (by rw[<-E];exact bQ) ae tX ?_|(refine jF ((H.cP S.b).c10) ae ox ?_;rw[B]))
      have S:=cz S
      go_loopw [52] (λi wr=>∃k:Nat,k<=s.df.n/\i=bU cq k/\Hid ((∀j(h:j<s.df.n),j<k->(s.df[j]).2.1<=r)/\St w cw [] [] [] (λ_ _=>True) wr)) (λi _=>s.df.n-(intOf i).m)
      case atStart=>exact amB
      case round=>
       obtain⟨k,Y,rfl,hS⟩:=hrel;by_cases a:k<s.df.n
       . obtain⟨V,o9,e⟩:=e.o cN;obtain⟨q,g⟩:=dG (s.df[k]);obtain⟨A,I⟩:=fU (cM 3 (dE q));have d:=cz (kG s.df a (A:=A) (by rw[g];exact I));have F:=cz I;have S:=hS.o.2;have L:=cz hS.o.1;have O:(k:Int)<(s.df.n:Int):=cN;subst e;by_cases m:q.2.1<=r
         . have u:¬(r:Int)<(q.2.1:Int):=cN
           go_wp2_with first|refine jl 57 82 56 S 0 1 (bU ct q.2.1) ?_|refine CB (f.cP S.b) a (vx F) d.o ?_|refine fu λW S=>?_
           go_roundw
           case rel=>exact⟨k+1,cN,by go_num,cz ⟨λj h p=>by
            rcases Df.1 p with h1|rfl
            . exact L.o j h h1
            . rw[g];exact m,S.pop⟩⟩
           case measure=>exact qN
         . have u:(r:Int)<(q.2.1:Int):=cN;have t:T=cy:=by
            rw[G.o];exact Lz.2 λh=>by
             have:=rJ.1 h q am1;exact m (by simpa using this)
           skip
           go_wp2_with first|refine jl 57 82 56 S 0 1 (bU ct q.2.1) ?_|refine CB (f.cP S.b) a (vx F) d.o ?_|refine fu λW S=>?_
           go_ret;rw[t];exact az
       . obtain rfl:k=s.df.n:=cN;have S:=hS.o.2;have n:T=cx:=by
          rw[G.o];exact rJ.2 λq g=>by
           obtain⟨j,p,rfl⟩:=xz.1 g;simpa using hS.o.1 j p p
         go_wp2;go_ret;rw[n];exact az
     |true=>
      by_cases M:s.cR<=r
      . have N:(s.cR:Int)<=(r:Int):=cN;obtain rfl:T=cy:=by rw[c];simp[M]
        clear c
        go_wp2_with first|(first|refine jo 12 82 11 ((H.cP S.b).c4) ?_|refine jo 18 82 17 ((H.cP S.b).c4) ?_|refine jg 44 82 43 ((H.cP S.b).c5) ?_)|refine je S (z.o _ S.b) λW S=>?_|(refine mf dC ?_;refine jF (v:=bZ cx) (by rw[<-y];exact(J.o.cP S.b).c2) ae tX ?_)|(refine jF ((J.o.cP S.b).c5) ae gi ?_;rw[C])|refine jF (v:=bZ cx) (by rw[<-E];exact bQ) ae tX ?_
        go_ret;exact az
      . have N:¬(s.cR:Int)<=(r:Int):=cN;have G:=cz (show T=s.df.all λq=>decide (q.2.1<=r) by rw[c];simp[M]);clear c
        go_upto_region 10 with(first|(first|refine jo 12 82 11 ((H.cP S.b).c4) ?_|refine jo 18 82 17 ((H.cP S.b).c4) ?_|refine jg 44 82 43 ((H.cP S.b).c5) ?_)|refine je S (z.o _ S.b) λW S=>?_|(refine mf dC ?_;refine jF (v:=bZ cx) (by rw[<-y];exact(J.o.cP S.b).c2) ae tX ?_)|(refine jF ((J.o.cP S.b).c5) ae gi ?_;rw[C])|refine jF (v:=bZ cx) (by rw[<-E];exact bQ) ae tX ?_|(refine jF ((H.cP S.b).c10) ae ox ?_;rw[B]))
        have S:=cz S
        go_loopw [52] (λi wr=>∃k:Nat,k<=s.df.n/\i=bU cq k/\Hid ((∀j(h:j<s.df.n),j<k->(s.df[j]).2.1<=r)/\St w cw [] [] [] (λ_ _=>True) wr)) (λi _=>s.df.n-(intOf i).m)
        case atStart=>exact amB
        case round=>
         obtain⟨k,Y,rfl,hS⟩:=hrel;by_cases a:k<s.df.n
         . obtain⟨V,o9,e⟩:=e.o cN;obtain⟨q,g⟩:=dG (s.df[k]);obtain⟨A,I⟩:=fU (cM 3 (dE q));have d:=cz (kG s.df a (A:=A) (by rw[g];exact I));have F:=cz I;have S:=hS.o.2;have L:=cz hS.o.1;have O:(k:Int)<(s.df.n:Int):=cN;subst e;by_cases m:q.2.1<=r
           . have u:¬(r:Int)<(q.2.1:Int):=cN
             go_wp2_with first|refine jl 57 82 56 S 0 1 (bU ct q.2.1) ?_|refine CB (f.cP S.b) a (vx F) d.o ?_|refine fu λW S=>?_
             go_roundw
             case rel=>exact⟨k+1,cN,by go_num,cz ⟨λj h p=>by
              rcases Df.1 p with h1|rfl
              . exact L.o j h h1
              . rw[g];exact m,S.pop⟩⟩
             case measure=>exact qN
           . have u:(r:Int)<(q.2.1:Int):=cN;have t:T=cy:=by
              rw[G.o];exact Lz.2 λh=>by
               have:=rJ.1 h q am1;exact m (by simpa using this)
             skip
             go_wp2_with first|refine jl 57 82 56 S 0 1 (bU ct q.2.1) ?_|refine CB (f.cP S.b) a (vx F) d.o ?_|refine fu λW S=>?_
             go_ret;rw[t];exact az
         . obtain rfl:k=s.df.n:=cN;have S:=hS.o.2;have n:T=cx:=by
            rw[G.o];exact rJ.2 λq g=>by
             obtain⟨j,p,rfl⟩:=xz.1 g;simpa using hS.o.1 j p p
           go_wp2;go_ret;rw[n];exact az
end
section
open Go.Maps (Keyed IsMap)
def aj9:laidOutB prog=cx:=dC
theorem Iq:Keyed prog 258:=Keyed.of_law (deep_law_laid aj9 (m:=3) cN (mj dC) dC nF)
theorem ak8(d:Nat)(h:n<18446744073709551616):prog.keyLits (d+1) 82 [.int .u64 n]=some [.int .u64 n]:=by simp_all[Program.keyLits,wf_u64]
theorem kl9(d:Nat){s:fM}(h:s.size<=maxLen):prog.keyLits (d+1) 9 [.string s]=some [.string s.data.toList]:=by simp_all[Program.keyLits]
theorem ak9:prog.cellsOf 258=2:=dC
theorem c82:prog.cellsOf 82=1:=dC
theorem c9:prog.cellsOf 9=1:=dC
theorem tsz:∃d,prog.types.s=d+1:=by simp_all
theorem aka:prog.keyType 258=cx:=dC
theorem aiN(c:Nat×fM)(f:c.1<18446744073709551616)(g:c.2.size<=maxLen):∃kl,keyOf prog 258 (.agg (cM 2 (sP c)))=some kl:=by
 have e:prog.keyLits (prog.types.size+1) 258 [.int .u64 c.1,.string c.2]=some ([.int .u64 c.1]++[.string c.2.data.toList]):=by obtain⟨d,b⟩:=tsz;rw[b];unfold Program.keyLits;simp_all[ak9,c82,c9,ak8,kl9]
 have a:(Value.agg (cM 2 (sP c))).formed prog 258=true:=by rfl
 unfold keyOf;rw[underlying258];simp only[aka,a,Bool.and_self,oQ];rw[DG];show∃kl,(prog.keyLits (prog.types.size+1) 258 [.int .u64 c.1,.string c.2]).map _=some kl
 simp_all
def abQ(b n:Nat)(D:DataW Unit):cV->cS->Prop:=λB w=>w.ownsMap prog 258 (plainElem prog 3) b n D/\b∉B
def Ir{D:DataW Unit}(h:w.ownsMap prog 258 (plainElem prog 3) b n D)(f:w'.h[b]?=w.h[b]?):w'.ownsMap prog 258 (plainElem prog 3) b n D:=by obtain⟨c,a,d,e⟩:=h;exact⟨c,a,f.trans d,e⟩
def Qp(b n:Nat)(D:DataW Unit):lN cw (abQ b n D) where
 cP:=λh hb=>⟨Ir h.1 (hb.block b h.1.lt),h.2⟩
 add:=λh hb=>⟨h.1,λhm=>by
  rcases iX.1 hm with e|hm
  . have:=h.1.lt;omega
  . exact h.2 hm⟩
 mono:=λh hs=>⟨h.1,λhm=>h.2 (hs _ hm)⟩
 but:=fun {B w w' c t} h hc hb _ _ _=>⟨Ir h.1 (hb.block b h.1.lt λe=>h.2 (e▸hc)),h.2⟩
 dev:=λ_ e=>by cases e
section
variable {x v:Nat}
def mkMap(S:St w0 cw l L O (λ_ _=>True) w)(h:∀W,St w0 cw l L O (abQ w.h.s 0 (.map [])) W->wpList prog ops Q rest (a.put (cu dst) (.map (cu w.h.s))) W):
 wpList prog ops Q (⟨cu dst,.makeMap ty cw,t2,p,af,cw⟩::rest) a w:=by refine mz ae λK c=>?_;unfold Oper.wp;simp only[execOp,lx,rN,Result.andThen,run_makeMap];refine c _ _ (h _ ?_);have d:dS w (w.alloc (.map #[] 0)):=(gK _ _).alloc (eN _) _;have b:=S.cP d;exact⟨b.fr,b.row,b.own,b.lo,b.nd,⟨World.ownsMap_made w prog 258 _,λe=>ug _ (S.lt _ e)⟩,Qp _ _ _⟩
def ZG{D:DataW Unit}(S:St w0 cw l L O (abQ b n D) w)(e:a.eval (.tmp m)=.map (cu b))(f:a.eval (.tmp x)=key)(d:keyOf prog 258 key=cu kl)(h:∀c:Int,wpList prog ops Q rest (a.put (cu dst) (cg #[bU cq c,bZ (Maps.has D kl)])) w):
 wpList prog ops Q (⟨cu dst,.lookup 290 (.tmp m) (.tmp x) cx,t2,p,af,cw⟩::rest) a w:=
 wpList_lookup_own_ok_int w ae (.tmp m) (.tmp x) 290 ae 258 3 cq Iq underlying290 vR dC b n D e S.x.1 key kl f d λc _ _=>h c
theorem aiO{D:DataW Unit}(S:St w0 none l L O (abQ b n D) w)(e:w0.heap.size<=b)(y:n<=1000000){i:Int}(j:(Lit.int .i64 i).wf=true)(o:a.eval (.tmp m)=.map (some b))(s:a.eval (.tmp x)=key)(r:a.eval (.tmp v)=.int .i64 i)(k:keyOf prog 258 key=some kl)(h:∀W,St w0 none l L O (abQ b (n+1) (D.put kl (.lit (.int .i64 i)))) W->wpList prog ops Q rest (a.put none undef) W):
 wpList prog ops Q (⟨none,.mapUpdate 290 (.tmp m) (.tmp x) (.tmp v),t2,p,af,none⟩::rest) a w:=by
 refine wpList_mapUpdate_own w ae (.tmp m) (.tmp x) (.tmp v) 290 ae 258 3 Iq underlying290 (plainElem prog 3) b n D o S.x.1 bN key _ kl s r k _ [] (plainElem_int vR j) λW ho g=>h W ?_;have f:=uY g;have q:iy w b=none:=by obtain⟨t,d,u,_⟩:=S.x.1;grind[iy]
 have c:=(S.EH (X':=λ_ _=>True) (λ_ _ _=>iC) xl).obj f q e lT.t;exact⟨c.fr,c.row,c.own,c.lo,c.nd,⟨ho,S.x.2⟩,Qp _ _ _⟩
end
theorem aeB{c a:Nat×fM}(h:Value.agg (cM 2 (sP c))=bV (cM 2 (sP a))):c=a:=by rw[DG,DG] at h;grind
noncomputable def DY(seen:List (Nat×fM))(c:Nat×fM):Bool:=@decide (c∈seen) (Classical.propDecidable _)
theorem Be{seen:List (Nat×fM)}{c:Nat×fM}:DY seen c=cx↔c∈seen:=by simp_all[DY]
theorem Yh(seen:List (Nat×fM))(d c:Nat×fM)(h:c≠d):DY (seen++[d]) c=DY seen c:=by rw[wR,Be,Be];simp[h]
def Ni(D:DataW Unit)(seen:List (Nat×fM)):Prop:=IsMap D/\∀c kl,keyOf prog 258 (bV (cM 2 (sP c)))=cu kl->Maps.has D kl=DY seen c
theorem Ni.nil:Ni (.map []) []:=⟨Maps.isMap_empty,λc _ _=>(Lz.2 λh=>by grind[Be]).symm⟩
theorem Ni.put{D:DataW Unit}(h:Ni D seen){c:Nat×fM}(f:keyOf prog 258 (bV (cM 2 (sP c)))=cu kl)(d:DataW Unit):Ni (D.put kl d) (seen++[c]):=by refine⟨h.1.put _ _,λg b a=>?_⟩;by_cases e:b=kl;subst e;have hc:=aeB (Iq.inj a f);subst hc;rw[Maps.has_put_same h.1 (Iq.key f)];grind[Be];rw[Maps.has_put_other e,h.2 g b a];grind[Yh]
noncomputable def oE(next:Nat):Nat->List (Nat×fM)->List du->Bool
 |_,_,[]=>cx
 |last,seen,x::r=>fC x&&decide (last<x.id)&&decide (x.id<next)&& !DY seen (dK x)&&oE next x.id (seen++[dK x]) r
noncomputable def nt(next:Nat)(l:List du):Bool:=
 if 281474976710655<next∨32<l.n then cy else
 oE next 0 [] l&&l.all λx=>kz l x&&jN l x
theorem O9{s:du}(h:fC s=cx):s.name.s<=maxLen:=by unfold fC at h;simp only[wT] at h;have a:=h.1.1.1.2;unfold ff at a;simp only[wT,qQ] at a;grind[maxLen]
theorem Nj{s:du}(h:fC s=cx):s.cZ<=281474976710655:=by simp_all[fC]
end
theorem Yi{x:du}(a:fC x=cx):∃kl,keyOf prog 258 (bV (cM 2 (sP (dK x))))=cu kl:=by have ho:=Nj a;have b:=O9 a;refine aiN _ ?_ ?_;grind[dK];grind[dK]
theorem Yj{next a:Nat}{l:List dL}{x:dL}(b:l[k]?=cu x):oE next a seen ((ez l).drop k)=(fC x.todu&&decide (a<x.id)&&decide (x.id<next)&& !DY seen (dK x.todu)&&oE next x.id (seen++[dK x.todu]) ((ez l).drop (k+1))):=by grind[ez,drop_eq_getElem?_toList_append,oE]
section
attribute[local irreducible]wpList Code.wp Calls Oper.wp wpAnyH
theorem Sp(next:Nat)(l:List dL)(v:c7)(hd:∀x∈l,x.df.length<=1000000)(hl:l.length<=1000000)(w:cS)(R:gC w v l):
 sW 151 #[.int .u64 next,v] w (.bool (nt next (ez l))):=by
 obtain⟨ao,cap,rfl,b2,B⟩:=dQ R.1;have q:=cz R;have B:=cz B;have r:(ez l).length=l.length:=by unfold ez;rw[mQ]
 obtain⟨T,H⟩:=dG (nt next (ez l));rw[H];have O:=cz hd;have S:=qP w;clear R hd;go_enter func151,ntmps151;by_cases hn:281474976710655<next
 . (obtain rfl:T=false:=by rw[<-H];unfold nt;rw[c8 (.inl hn)]);have a7:(281474976710655:Int)<(next:Int):=cN;clear H r;go_wp2;go_ret;exact az
 have a7:¬(281474976710655:Int)<(next:Int):=cN;by_cases a8:32<l.length
 . (obtain rfl:T=false:=by rw[<-H];unfold nt;rw[c8 (.inr (by rw[r];exact a8))]);have a9:(32:Int)<(l.length:Int):=cN;clear H r;go_wp2;go_ret;exact az
 have a9:¬(32:Int)<(l.length:Int):=cN;have Y:T=(oE next 0 [] (ez l)&& (ez l).all λx=>kz (ez l) x&&jN (ez l) x):=by rw[<-H];unfold nt;rw[cX (by rw[r];omega)]
 have F:=cz Y;clear Y H r hn;go_upto_region 6 with(refine mkMap S λW S=>?_);go_loopw [6,23] (λla i wr=>∃(k m:Nat)(seen:List (Nat×fM))(D:DataW Unit),k<=l.length/\i=.int .i64 k/\la=.int .u64 m/\Hid (Ni D seen/\oE next 0 [] (ez l)=oE next m seen ((ez l).drop k)/\St w none [] [] [] (abQ w.heap.size k D) wr)) (λ_ i _=>l.length-(intOf i).toNat);exact⟨0,0,[],.map [],cN,ae,ae,cz ⟨Ni.nil,ae,S⟩⟩;clear S;obtain⟨k,m,seen,D,hk,rfl,rfl,hS⟩:=hrel;by_cases e:k<l.length
 . (obtain⟨b,o,rfl⟩:=B.o cN;obtain⟨x,y⟩:∃x,l[k]?=some x:=⟨_,jG e⟩;have S:=hS.o.2.2;have Q:=cz hS.o.1;have J:=hS.o.2.1;rw[Yj y] at J;have d:=cz J;have t:=cz (q.o.at y);have a6:(k:Int)<(l.length:Int):=cN;clear hS J;obtain⟨A,hA⟩:=fU (cM 11 (iz x));have a1:l[k]=x:=by grind);have h:=cz (nC l e (A:=A) (by rw[a1];exact hA));have N:=cz hA;have a:x∈l:=lu y;obtain⟨sr,n⟩:=dG (fC x.todu);have s:=cz λW(u:dS w W)=>Hs x A hA (O.o x a) W ((q.o.cP u).2 x a);rw[n] at s;have C:=cz λW(u:dS w W)=>MD b (o+k*11) x W (t.o.cP u);clear y a1 hA a;cases sr with|false=>have j:=cz (show T=false by rw[F.o,d.o,n];rfl);go_wp2_with (first|refine CB (q.o.cP S.b).1 e (vx N) h.o ?_|refine je S (s.o _ S.b) λW S=>?_);go_ret;rw[j.o];exact az|true=>have a2:=cz n;by_cases V:m<x.id;(case neg=>have a4:decide (x.id<=m)=true:=gI cN;have j:=cz (show T=false by rw[F.o,d.o,jC V];simp);clear V n;go_wp2_with (first|refine jg 38 82 37 ((t.o.cP S.b).c0) ?_|refine CB (q.o.cP S.b).1 e (vx N) h.o ?_|refine je S (s.o _ S.b) λW S=>?_);go_ret;rw[j.o];exact az);(have a4:decide (x.id<=m)=false:=jC cN;by_cases h2:x.id<next);(case neg=>have a5:decide (next<=x.id)=true:=gI cN;have j:=cz (show T=false by rw[F.o,d.o,jC h2];simp);clear V h2 n;go_wp2_with (first|(first|refine jg 38 82 37 ((t.o.cP S.b).c0) ?_|refine jg 46 82 45 ((t.o.cP S.b).c0) ?_)|refine CB (q.o.cP S.b).1 e (vx N) h.o ?_|refine je S (s.o _ S.b) λW S=>?_);go_ret;rw[j.o];exact az);have a5:decide (next<=x.id)=false:=jC cN;obtain⟨kl,f⟩:=Yi n;obtain⟨G,X⟩:=dG (dK x.todu);have d:=cz (show oE next 0 [] (ez l)=(!DY seen G&&oE next x.id (seen++[G]) ((ez l).drop (k+1))) by rw[d.o,a2.o,gI V,gI h2,X];rfl);rw[X] at f C;have b1:=Q.o.2 G kl f;obtain⟨A2,z⟩:=yw (cM 2 (sP G));rw[<-z.o] at f;have p:=cz f;clear V h2 n f;obtain⟨sn,g⟩:=dG (DY seen G);rw[g] at b1;cases sn with|true=>have j:=cz (show T=false by rw[F.o,d.o,g];rfl);clear g;go_wp2_with (first|(first|refine jg 38 82 37 ((t.o.cP S.b).c0) ?_|refine jg 46 82 45 ((t.o.cP S.b).c0) ?_|refine jo 53 82 52 ((t.o.cP S.b).c0) ?_)|refine CB (q.o.cP S.b).1 e (vx N) h.o ?_|refine je S (s.o _ S.b) λW S=>?_|(refine je S (C.o _ S.b) λW S=>?_;rw[<-z.o])|(refine ZG S ae ae p.o ?_;intro c)|refine fO ?_|refine fu λW S=>?_);go_ret;rw[j.o];exact az|false=>have d:=cz (show oE next 0 [] (ez l)=oE next x.id (seen++[G]) ((ez l).drop (k+1)) by rw[d.o,g];rfl);have a3:=cz (wf_i64 (x:=k) cN);clear g;go_wp2_with (first|(first|refine jg 38 82 37 ((t.o.cP S.b).c0) ?_|refine jg 46 82 45 ((t.o.cP S.b).c0) ?_|refine jo 53 82 52 ((t.o.cP S.b).c0) ?_)|refine CB (q.o.cP S.b).1 e (vx N) h.o ?_|refine je S (s.o _ S.b) λW S=>?_|(refine je S (C.o _ S.b) λW S=>?_;rw[<-z.o])|(refine ZG S ae ae p.o ?_;intro c)|refine aiO S (eN _) cN (i:=(k:Nat)) a3.o rfl rfl rfl p.o λW S=>?_|refine fO ?_|refine fu λW S=>?_);go_roundw;exact⟨k+1,x.id,seen++[G],D.put kl (.lit (.int .i64 ((k:Nat):Int))),cN,by go_num,ae,cz ⟨Q.o.put (by rw[<-z.o];exact p.o) _,d.o,S.pop⟩⟩;exact qN
 . obtain rfl:k=l.length:=cN;have S:=hS.o.2.2.EH (X':=λ_ _=>True) (λ_ _ _=>iC) xl;have F:=cz (show T=(ez l).all λx=>kz (ez l) x&&jN (ez l) x by
    rw[F.o,hS.o.2.1];rw[drop_eq_nil_of_le (by unfold ez;rw[mQ];omega)];rfl)
   clear hS;go_upto_region 19 with(fail);go_loopw [69] (λi wr=>∃k:Nat,k<=l.length/\i=.int .i64 k/\Hid ((T=((ez l).drop k).all λx=>kz (ez l) x&&jN (ez l) x)/\St w none [] [] [] (λ_ _=>True) wr)) (λi _=>l.length-(intOf i).toNat);exact⟨0,cN,ae,cz ⟨F.o,S⟩⟩;clear S;obtain⟨k,hk,rfl,hS⟩:=hrel;by_cases e:k<l.length
   . (obtain⟨b,o,rfl⟩:=B.o cN;obtain⟨x,y⟩:∃x,l[k]?=some x:=⟨_,jG e⟩;have S:=hS.o.2;have Z:(ez l)[k]?=some x.todu:=by unfold ez;rw[rK,y];rfl);have K:=hS.o.1;rw[drop_eq_getElem?_toList_append,Z] at K;have E:=cz (show T=((kz (ez l) x.todu&&jN (ez l) x.todu)&& ((ez l).drop (k+1)).all λx=>kz (ez l) x&&jN (ez l) x) from K);have a:x∈l:=lu y;have s:=cz λW(u:dS w W)=>Nh l _ hl x (O.o x a) b (o+k*11) W (q.o.cP u) ((q.o.cP u).at y) ((q.o.cP u).2 x a);have C:=cz λW(u:dS w W)=>Ng l _ hl x b (o+k*11) W (q.o.cP u) ((q.o.cP u).at y);have a6:(k:Int)<(l.length:Int):=cN;obtain⟨er,I⟩:=dG (kz (ez l) x.todu);obtain⟨M,L⟩:∃M,jN (ez l) x.todu=M:=⟨_,ae⟩;rw[I,L] at E;rw[I] at s;rw[L] at C;clear hS y Z K a I L;rcases er with _|_;rotate_left;rcases M with _|_;rotate_left
     . go_wp2_with (first|refine je S (s.o _ S.b) λW S=>?_|refine je S (C.o _ S.b) λW S=>?_);go_roundw;exact⟨k+1,cN,by go_num,cz ⟨E.o,S⟩⟩;exact qN
     all_goals
      go_wp2_with first|refine je S (s.o _ S.b) λW S=>?_|refine je S (C.o _ S.b) λW S=>?_
      go_ret;rw[E.o];exact az
   . obtain rfl:k=l.length:=cN;have S:=hS.o.2;have U:=cz (show T=true by
      rw[hS.o.1];rw[drop_eq_nil_of_le (by unfold ez;rw[mQ];omega)];rfl)
     clear hS;go_wp2;go_ret;rw[U.o];exact az
end
theorem ag2:qT 40=[]:=by rfl
theorem Nk(c:qE s.dv)(hc:(fc s [cO] 40).2.2=0):(fc s [cO] 40).2.1.n=40:=by have a:pG s [cO]=jW (s,([],0)) cO:=rfl;have b:(gz s cO).2.1.n=128:=(Dt c cO).1;by_cases e:(gz s cO).2.2=0;(have d:pG s [cO]=((gz s cO).1,([]++(gz s cO).2.1,0)):=by rw[a];unfold jW;grind);unfold fc at hc|-;grind;(have d:pG s [cO]=((gz s cO).1,([],(gz s cO).2.2)):=by rw[a];unfold jW;grind);unfold fc at hc;grind
theorem Nl(d:qE s.dv)(hc:(eP s cO 40).2.2.2=0):(eP s cO 40).2.1.n=40:=by unfold eP at hc|-;rw[ag2] at hc|-;by_cases a:kQ 40=[]∨cO=cY;grind;(rw[cX a] at hc|-;show((if(fc s [cO] 40).2.2≠0 then((fc s [cO] 40).1,([],[],(fc s [cO] 40).2.2)) else((fc s [cO] 40).1,((fc s [cO] 40).2.1,[cO],0))):Pl×(cV×List cQ×Int)).2.1.n=40;have b:((if(fc s [cO] 40).2.2≠0 then((fc s [cO] 40).1,([],[],(fc s [cO] 40).2.2)) else((fc s [cO] 40).1,((fc s [cO] 40).2.1,[cO],0))):Pl×(cV×List cQ×Int)).2.2.2=0:=hc;by_cases c:(fc s [cO] 40).2.2=0);simp_all[Nk];grind
theorem Fw(c:∀y∈bs,y<256){l:List du}(h:lK bs=cu (n,l)):l.n<=32/\∀s∈l,tf s/\s.df.n<=4000:=by unfold lK at h;split at h;cases h;next ts hts=>have d:=EI hts c;split at h;cases h;next h33=>split at h;cases h;split at h;cases h;next l2 hl2=>split at h;cases h;split at h;(cases h;have key:∀(xs:List cV)(m:List du),(∀x∈xs,∀y∈x,y<256)->mK xs=cu m->m.n=xs.n/\∀s∈m,tf s/\s.df.n<=4000:=by intro xs;induction xs with|nil=>intro m _ a;cases a<;>grind|cons x xs ih=>intro m e a;unfold mK at a;split at a;cases a;next s hs=>split at a;cases a;next r hr=>cases a;obtain⟨g,i⟩:=ih r (λy f=>e y (kT _ f)) hr;refine⟨by grind,λz b=>?_⟩;rcases iX.1 b with rfl|b;grind[Hv];grind);grind;cases h
theorem Ku:∀(l:List du){next a:Nat}{seen:List (Nat×fM)},oE next a seen l=cx->∀s∈l,fC s=cx
 | [],_,_,_,_,s,hs=>by cases hs
 |x::l,next,a,seen,h,s,hs=>by
  unfold oE at h;simp only[wT] at h;rcases iX.1 hs with rfl|hs
  . grind
  . exact Ku l h.2 s hs
theorem K6{s:du}(h:fC s=cx):s.name.s<=24:=by simp_all[fC,ff]
theorem aeC{bs:cV}(c:∀y∈bs,y<256){n:Nat}{l:List du}(h:lK bs=cu (n,l))(a:nt n l=cx):fi ⟨n,l⟩:=by obtain⟨e,b⟩:=Fw c h;unfold nt at a;split at a;cases a;next hn=>simp only[wT] at a;have f:=Ku l a.1;refine⟨?_,⟨?_,λt g=>⟨?_,?_⟩⟩,λs d=>(b s d).1⟩;grind;grind;grind;grind[K6]
def tJ:ej:=⟨0,[]⟩
noncomputable def ml3(n:Nat)(a:List cQ)(h g:Pl×(cV×List cQ×Int)):ej×(List (Int×Int)×(List cQ×Int)):=
 match lK h.2.1 with
 |none=>(tJ,([],([],91)))
 |some nl=>if nt nl.1 nl.2=cy then(tJ,([],([],91))) else
  match pH (n:Nat) g.2.1 with
  |none=>(tJ,([],([],91)))
  |some zs=>(⟨nl.1,nl.2⟩,(zs,((a++h.2.2.1)++g.2.2.1,0)))
noncomputable def ml2(a h:Pl×(cV×List cQ×Int)):Pl×(ej×(List (Int×Int)×(List cQ×Int))):=
 let g:=j9 h.1 (a.2.1.drop 20)
 if g.2.2.2≠0 then(g.1,(tJ,([],([],CH g.2.2.2)))) else(g.1,ml3 g.1.dv.n a.2.2.1 h g)
noncomputable def ml1(a:Pl×(cV×List cQ×Int)):Pl×(ej×(List (Int×Int)×(List cQ×Int))):=
 let h:=j9 a.1 (a.2.1.take 20)
 if h.2.2.2≠0 then(h.1,(tJ,([],([],CH h.2.2.2)))) else ml2 a h
noncomputable def jX(s:Pl)(iG:cQ):Pl×(ej×(List (Int×Int)×(List cQ×Int))):=
 if(eP s iG 40).2.2.2≠0 then((eP s iG 40).1,(tJ,([],([],CH (eP s iG 40).2.2.2)))) else ml1 (eP s iG 40)
theorem Sq{p q r s:Tmp}{g:Nat}{d:TypeDesc}(h:fn.results=#[.cell p ty,.tmp q,.tmp r,.tmp s])(j:tmps.getD p undef=bW (cu ⟨g,0,cw⟩))(c:cL w g t n f)(e:P.underlying ty=cu d)(b:(match d with| .struct _| .array _ _=>cx|_=>cy)=cx)(i:(P.info? ty).map (·.size)=cu n):
 (results fn tmps).run P w=.ok (cg #[bV (cM n f),tmps.getD q undef,tmps.getD r undef,tmps.getD s undef]) w:=by
 have a:tmps[p]?.getD undef=dF g 0:=by simp_all
 simp[results,h,a,asAddr,Jd w g t ty (cM n f) (0,0) d c e b aG,Result.andThen]
section
theorem Ck(S:St w0 d l L O X w)(k:Nat){p q b c:Tmp}(j:L[k]?=cu r)(h:fn.results=#[.cell p ty,.tmp q,.tmp b,.tmp c])(m:a.tmps.getD p undef=bW (cu ⟨r.b,0,cw⟩))(n:ky P ty r.n)(i:a.defers=[])(g:R (cj (cg #[bV (cM r.n r.f),a.tmps.getD q undef,a.tmps.getD b undef,a.tmps.getD c undef])) w):bodyPost P fn R .ret a w:=by obtain⟨⟨o,e,s⟩,f⟩:=n;exact iI (Sq h m (S.pE j) e jH f) i g
def St.ag4(S:St w0 d l L O X w)(h:Ib w base v bs)(e:∀b∈eM L O,b<base∨iy w b≠cu 5):St w0 d l L O (λB w=>X B w/\yQ 5 1 v bs.n (eo bs) B w) w:=
 S.DH (fF 5 1 v _ _ ae ae) ⟨h.sl,λc b a f=>by
  rcases e b f with h1|h1
  . have:=h.new c b a;omega
  . exact h1 (h.sl.ty a c)⟩
def St.Sr(S:St w0 d l L O X w)(f:Fr d2 l2 w w')(g:∀D,d2=cu D->d=cu D)(i:∀k∈l2,k∈l∨w0.h.s<=k)(m:lN d X')(n:∀B,X B w->X' B w'){q:c7}(h:Ib w' w.h.s v bs)(ho:ir w' w.h.s q ps):St w0 d l L (⟨106,3,q,ps.n,iZ ps⟩::O) (λB w=>X' B w/\yQ 5 1 v bs.n (eo bs) B w) w':=by refine(S.um f g i m n ho ae ae).ag4 h λb c=>?_;rcases iu.1 c with⟨r,j,e⟩|⟨o,a,e⟩;exact .inl (S.lt b (iu.2 (.inl ⟨r,j,e⟩)));rcases iX.1 a with rfl|a;exact .inr (by rw[uR ho e];decide);exact .inl (S.lt b (iu.2 (.inr ⟨o,a,e⟩)))
end
def adS:prog.built 99 []=cu #[bU ct 0,bX cw 0 0]:=dC
theorem O'(s:Pl)(cO:cQ)(n:Int):(eP s cO n).2.1.n<=65535:=by unfold eP;split;grind;next h=>simp only;split;grind;split;grind;(have b:n.m<=65535:=by have a:kQ n≠ []:=λe=>h (.inl e);unfold kQ at a;grind);(show(fc _ _ _).2.1.n<=_;unfold fc);grind
theorem Ss(s:Pl)(a:cV):(j9 s a).2.1.n<=65535:=by unfold j9;split;grind;grind[O']
theorem zZ(s:Pl)(a:cV):(j9 s a).2.2.1.n<=6000:=by unfold j9;split;grind;grind[sK]
def abR(w:cS)(base:Nat):lV w base (cM 2 (dO xr)) tJ:=⟨xr,ae,ae,iD _ _ _ _,λx a=>by cases a⟩
section
attribute[local irreducible]wpList Code.wp Calls Oper.wp wpAnyH
theorem Is(P D K:Nat)(s:Pl)(cO:cQ)(hr:dD cO)(w:cS)(h:fh w P D K s):
 CP_ 87 #[bW (cu ⟨P,0,cw⟩),mO cO] w λe w'=>∃B r q,e=cj (cg #[bV B,r,q,bU cq (jX s cO).2.2.2.2])/\lV w' w.h.s B (jX s cO).2.1/\mT w' w.h.s r (jX s cO).2.2.1/\fj w' r (jX s cO).2.2.1/\ir w' w.h.s q (jX s cO).2.2.2.1/\fQ (jX s cO).2.2.2.1/\fh w' P D K (jX s cO).1/\Fr (cu D) [] w w':=by
 obtain⟨A,hA⟩:=fU (cM 3 (dE cO));have S:=St.start w (cu D) [] (dR P D K s) h;have C1:=cz λW h=>x6 P D K s cO hr 40 W h;have o:=Nl h.dev.ok (cO:=cO);have a1:=sK s cO 40;obtain⟨ML,C⟩:=dG (jX s cO);rw[C,dk hA];rw[dk hA] at C1;unfold jX at C;obtain⟨a,Y⟩:=dG (eP s cO 40);rw[Y] at C1 C o a1;obtain⟨s1,g,n,c1⟩:=a;simp only at C1 o a1;have HA:=cz hA;clear hA Y h hr;go_enter func87,ntmps87;go_upto_region 2 with(first|(refine(C1.o _ S.x).mono ?_;rintro e W ⟨r,q,rfl,F,N,t,hp,hf⟩;have I:=cz (dQ F.sl);have J:=cz (dx N);have b1:=cz t;have V:=cz F.lt;replace S:=S.Sr hf aw eQ (dR P D K s1) (λB h=>hp) F N;clear F N t;obtain⟨Y,hc,rfl,d4,-⟩:=I.o;obtain⟨qa,qc,rfl⟩:=J.o)|refine fO ?_|refine fu λW S=>?_);by_cases E:c1=0;case neg=>have g3:(c1 !=0)=cx:=fK.2 E;have l:=cz (show ML=(s1,(tJ,([],([],CH c1)))) by rw[<-C,c8 E]);clear E C;go_wp2_with first|(refine(Jv _ _).mono ?_;rintro e W' ⟨rfl,rfl⟩)|(refine Ck S 0 ae ae ae nU ae ?_;rw[l.o];exact⟨_,_,_,ae,abR _ _,iD _ _ _ _,fj.nil _,ir.nil _ _,dU,S.x.1,S.fr⟩)|refine fO ?_|refine fu λW S=>?_
 subst E;have d:ML=ml1 (s1,(g,(n,0))):=by rw[<-C,cX (λh=>h ae)]
 replace o:=o ae;unfold ml1 at d;simp only at d;have a4:(g.take 20).n=20:=by rw[lO,o];rfl
 have Z:(g.drop 20).n=20:=by rw[uf,o]
 have C2:=cz λv W h R=>Ks P D K s1 (g.take 20) a4 (λx p=>V.o x (lP p)) v W h R;have d1:=cz λW(R:dg W 5 1 (bX Y g.n hc) g.n (eo g))=>(show dg W 5 1 (bX Y 20 hc) 20 (eo (g.take 20)) from by have z:=dg.take R (i:=20) cN;rwa [sL,ux] at z);obtain⟨da,a8⟩:=sV (lz Y hc 20 1);have d2:=cz λW(R:dg W 5 1 (bX Y g.n hc) g.n (eo g))=>(show dg W 5 1 (bX da (g.n-20) (hc-20)) 20 (eo (g.drop 20)) from by have z:=dg.CG R (i:=20) cN;rw[sL,xt,a8.o,show g.n-20=20 by omega] at z;rw[show g.n-20=20 by omega];exact z);have d3:(20:Nat)<=g.n:=cN;have b5:(20:Nat)<=hc:=cN;have a2:=zZ s1 (g.take 20);have a5:=Ss s1 (g.take 20);obtain⟨a,M⟩:=dG (j9 s1 (g.take 20));rw[M] at C2 d a2 a5;obtain⟨s2,tx,O,c2⟩:=a;simp only at C2 d a2 a5;clear M C o a4;go_upto_region 5 with(first|refine Uy vg ae ae (y:=20) b5 ?_|(refine(C2.o _ _ S.x.1 (d1.o _ S.x.2.1)).mono ?_;rintro e W ⟨r,q,rfl,F,N,t,hp,hf⟩;have I:=cz (dQ F.sl);have J:=cz (dx N);have b2:=cz t;have X:=cz F.lt;replace S:=S.Sr hf aw eQ ((dR P D K s2).still (fF 5 1 (bX Y g.n hc) g.n (eo g) ae ae)) (λB h=>⟨hp,(fF 5 1 _ _ _ ae ae).fr h.2 hf⟩) F N;clear F N t;obtain⟨ta,tc,rfl,d5,-⟩:=I.o;obtain⟨ra,rc,rfl⟩:=J.o));by_cases E:c2=0;case neg=>have g3:(c2 !=0)=cx:=fK.2 E;have l:=cz (show ML=(s2,(tJ,([],([],CH c2)))) by rw[d,c8 E]);clear E d;go_wp2_with first|(refine(Jv _ _).mono ?_;rintro e W' ⟨rfl,rfl⟩)|(refine Ck S 0 ae ae ae nU ae ?_;rw[l.o];exact amz)|refine fO ?_|refine fu λW S=>?_
 subst E;rw[cX (λh=>h ae)] at d;unfold ml2 at d;simp only at d;have C3:=cz λv W h R=>Ks P D K s2 (g.drop 20) Z (λx p=>V.o x (mR p)) v W h R;have a3:=zZ s2 (g.drop 20);obtain⟨a,M⟩:=dG (j9 s2 (g.drop 20));rw[M] at C3 d a3;obtain⟨s3,sx,l2,c3⟩:=a;simp only at C3 d a3;clear M Z;go_upto_region 8 with(first|(refine y8 vg ae ae (y:=20) d3 ?_;rw[a8.o])|(refine(C3.o _ _ S.x.1.1 (d2.o _ S.x.1.2.1)).mono ?_;rintro e W ⟨r,q,rfl,F,N,t,hp,hf⟩;have I:=cz (dQ F.sl);have J:=cz (dx N);have b3:=cz t;have a9:=cz F.lt;replace S:=S.Sr hf aw eQ ((dR P D K s3).still (fF 5 1 (bX ta tx.n tc) tx.n (eo tx) ae ae)) (λB h=>⟨hp,(fF 5 1 _ _ _ ae ae).fr h.2 hf⟩) F N;clear F N t;obtain⟨ua,uc,rfl,d6,-⟩:=I.o;obtain⟨va,vc,rfl⟩:=J.o));by_cases E:c3=0;case neg=>have g3:(c3 !=0)=cx:=fK.2 E;have l:=cz (show ML=(s3,(tJ,([],([],CH c3)))) by rw[d,c8 E]);clear E d;go_wp2_with first|(refine(Jv _ _).mono ?_;rintro e W' ⟨rfl,rfl⟩)|(refine Ck S 0 ae ae ae nU ae ?_;rw[l.o];exact amz)|refine fO ?_|refine fu λW S=>?_
 subst E;rw[cX (λh=>h ae)] at d;unfold ml3 at d;simp only at d;have U:=cz λu W R=>OT tx u cN X.o W R;obtain⟨er,Q⟩:=dG (lK tx);rw[Q] at U d;cases er with
 |none=>have L:gq 151 (cw:Option (Nat×List du))=151:=rfl;rw[L] at U;have l:=cz d;clear d Q L;go_upto_region 12 with(refine ah (U.o _ _ S.x.1.2.1) λr W⟨ho,g⟩=>?_;replace S:=S.cP g);go_wp2_with first|(refine Ck S 0 ae ae ae nU ae ?_;rw[l.o];exact amz)|refine fO ?_|refine fu λW S=>?_
 |some nl=>
  obtain⟨nx,sl⟩:=nl;have L:gq 151 (cu (nx,sl))=0:=rfl;rw[L] at U;simp only[Lw,kL] at U d;obtain⟨b8,d7⟩:=Fw X.o Q;obtain⟨fr,a6⟩:=dG (nt nx sl);rw[a6] at d;have C5:=cz λ(m:List dL)(G:ez m=sl)(u:c7)W(R:gC W u m)=>Sp nx m u (λx p=>by have:=(d7 x.todu (by rw[<-G];exact gT.2 ⟨x,p,ae⟩)).2;omega) (by rw[<-G,iv] at b8;omega) W R;have C5:=cz λ(m:List dL)(G:ez m=sl)(u:c7)W(R:gC W u m)=>(show sW 151 #[bU ct nx,u] W (bZ fr) from by have z:=C5.o m G u W R;rw[G,a6] at z;exact z);clear Q L a6;cases fr with
  |false=>
   rw[c8 ae] at d;have l:=cz d;clear d
   go_upto_region 12 with(first|(refine ah (U.o _ _ S.x.1.2.1) λr W⟨⟨m,ho,G⟩,g⟩=>?_;have HM:=cz G;have H:=cz (dx ho.1);replace S:=S.DJ g ho;clear G;obtain⟨wa,wc,rfl⟩:=H.o)|refine je S (C5.o m HM.o _ _ ⟨S.q0,λx p=>(S.x.2 x p).1⟩) λW S=>?_)
   go_wp2_with first|(refine Ck S 0 ae ae ae nU ae ?_;rw[l.o];exact anu)|refine fO ?_|refine fu λW S=>?_
  |true=>
   rw[cX kM] at d;have c9:=cz S.x.1.1.qD;have C6:=cz λv W R=>Nd (s3.dv.n:Nat) (by have:=c9.o;unfold eT;omega) v sx a9.o W R;obtain⟨ms,b7⟩:=dG (pH (s3.dv.n:Nat) sx);rw[b7] at C6 d;clear b7;cases ms with
   |none=>
    have L:gq 81 (cw:Option (List (Int×Int)))=81:=rfl;rw[L] at C6;have l:=cz d;clear d L
    go_upto_region 15 with(first|(refine ah (U.o _ _ S.x.1.2.1) λr W⟨⟨m,ho,G⟩,g⟩=>?_;have HM:=cz G;have H:=cz (dx ho.1);replace S:=S.DJ g ho;clear G;obtain⟨wa,wc,rfl⟩:=H.o)|refine je S (C5.o m HM.o _ _ ⟨S.q0,λx p=>(S.x.2 x p).1⟩) λW S=>?_|(refine(nP P D K _ _ _ S.x.1.1.1.row).mono ?_;rintro e W ⟨rfl,rfl⟩)|(refine(Ag D _ _ S.x.1.1.1.dev).mono ?_;rintro e W ⟨rfl,rfl⟩)|(refine(C6.o _ _ S.x.1.2.1).mono ?_;rintro e W ⟨r,rfl,-,-,g⟩;replace S:=S.cP g))
    go_wp2_with (first
   |(refine Ck S 0 ae ae ae nU ae ?_;rw[l.o];exact anu)
   |refine fO ?_
   |refine fu λW S=>?_)
   |some set=>
    have L:gq 81 (cu set)=0:=rfl;rw[L] at C6;simp only[kL] at C6 d;have l:=cz d;clear d L;obtain⟨B9,b6⟩:∃f:(Option Addr->Nat->List dL->gJ),f=λa c m=>cM 2 (dO ⟨nx,m,a,c⟩):=⟨_,ae⟩;have a7:=cz (show∀a c m,B9 a c m=cM 2 (dO ⟨nx,m,a,c⟩) from λa c m=>by rw[b6]);clear b6
    go_wp2_with first|(refine ah (U.o _ _ S.x.1.2.1) λr W⟨⟨m,ho,G⟩,g⟩=>?_;have HM:=cz G;have H:=cz (dx ho.1);have c6:=cz (show∀x∈m,rD w.h.s x from λx p hn b z=>ik S.fr.size ((ho.2 x p).2 hn b z));replace S:=S.DJ g ho;clear G;obtain⟨wa,wc,rfl⟩:=H.o)|refine je S (C5.o m HM.o _ _ ⟨S.q0,λx p=>(S.x.2 x p).1⟩) λW S=>?_|(refine(nP P D K _ _ _ S.x.1.1.1.row).mono ?_;rintro e W ⟨rfl,rfl⟩)|(refine(Ag D _ _ S.x.1.1.1.dev).mono ?_;rintro e W ⟨rfl,rfl⟩)|(refine ah (C6.o _ _ S.x.1.2.1) λr W⟨ho,hs,g⟩=>?_;have b4:=cz (And.intro (show∀x∈set,eT x.1/\eT x.2 from by obtain⟨_,_,_,_,z,_⟩:=hs;exact z) (show set.n<=9223372036854775807 from by obtain⟨_,_,_,z,_⟩:=hs;exact z));have c5:=cz (dx ho);replace S:=S.iw g ho ae ae;clear hs;obtain⟨xa,xc,rfl⟩:=c5.o)|refine lE (cells:=B9 wa wc m) ae (by rw[a7.o];exact RM _ _ _ _) ?_|refine blV S [bX qa n.n qc,bX ra O.n rc,bX va l2.n vc] underlying299 ZD cN cN rfl rfl amx rfl λW S=>?_|(refine ah (Nc [(bX qa n.n qc,n),(bX ra O.n rc,O),(bX va l2.n vc,l2)] _ (show(3:Nat)<=1000 by omega) (show n.n+(O.n+(l2.n+0))<=100000 by omega) _ (EM S.k0 ae (eN 3) (show(3:Nat)<=maxLen by unfold maxLen;omega) λj u hu=>⟨(oF.1 hu).1,by grind⟩) (by intro x p;simp only[iX,jL,uH] at p;rcases p with rfl|rfl|rfl;exact dg.j8 (S.uV (k:=4) ae);exact dg.j8 (S.uV (k:=3) ae);exact dg.j8 S.o2)) λr W⟨ho,g⟩=>?_;have c4:=cz (dx ho);replace S:=S.iw g ho ae ae;obtain⟨ja,jc,rfl⟩:=c4.o)|refine Ui S 1 rfl rfl rfl (a7.o wa wc m) nU (fW _) λW S=>?_
    have b9:=cz (show [(Value.slice qa n.n qc,n),(Value.slice ra O.n rc,O),(Value.slice va l2.n vc,l2)].flatMap Prod.snd=(n++O)++l2 by simp);refine Ck S 1 ae ae ae nU ae ?_;rw[l.o];refine⟨_,_,_,ae,⟨⟨nx,m,wa,wc⟩,ae,?_,S.o2,λx p=>⟨(S.x.2 x p).1,c6.o x p⟩⟩,S.o1,uL S.o1 b4.o.1 b4.o.2,?_,λy T=>?_,S.x.1.1.1,S.fr⟩
    . unfold dY.t;rw[<-HM.o]
    . show ir W w.h.s (bX ja (n.n+(O.n+l2.n)) jc) ((n++O)++l2);rw[show n.n+(O.n+l2.n)=((n++O)++l2).n by rw[jv,jv];omega];have z:=S.o0;rw[b9.o] at z;exact z
    . rcases gH.1 T with T|T
      . rcases gH.1 T with T|T
        . exact b1.o y T
        . exact b2.o y T
      . exact b3.o y T
def eu(b:ej)(cT:fM):ej×(List cQ×Int):=
 match pF cT with
 |none=>(b,([],141))
 |some _=>match mi b.cU cT with
  |none=>(b,([],172))
  |some i=>if 0<(xZ b.cU (dH b.cU i).id).n then(b,([],173)) else
   match fp b.cU (qS b.cU (dH b.cU i).id) with
   |none=>(b,([],172))
   |some j=>match jR (oZ (dH b.cU j).df (gr b.cU (dH b.cU i).id)) (dH b.cU i).df with
    |none=>(b,([],131))
    |some zl=>if 4000<zl.n then(b,([],131)) else
     (⟨b.next,(b.cU.set j {dH b.cU j with df:=zl,dB:=(dH b.cU i).dB}).eraseIdx i⟩,(jQ (dH b.cU j).df (gr b.cU (dH b.cU i).id),0))
theorem Su(l:List cQ)(st:Nat):(oZ l st).n<=l.n:=by grind[oZ]
def JA(b:dY)(A:gJ)(hA:A=cM 2 (dO b))(J:zf b.t)(cT:fM)(b8:cT.s<=140737488355328)(w:cS)(R:jd w b):
 CP_ 66 #[bV A,bY cT] w λe w'=>∃B r,e=cj (cg #[bV B,r,bU cq (eu b.t cT).2.2])/\lV w' w.h.s B (eu b.t cT).1/\ir w' w.h.s r (eu b.t cT).2.1/\dS w w':=by
 have HA:=cz hA;have HR:=cz R;have C1:=cz λW=>Cd cT b8 W;have C2:=cz λW(a:dS w W)=>yb b A hA J cT b8 W (HR.o.cP a);have C3:=cz λid W(a:dS w W)=>OW b.l b.sv id J.len W (HR.o.cP a);have C4:=cz λid W(a:dS w W)=>U1 b.l b.sv id J.len W (HR.o.cP a);have O:=cz λid W(a:dS w W)=>wK b.l b.sv id J.len W (HR.o.cP a);have C6:=cz λid W(a:dS w W)=>EF b.l b.sv id J.len W (HR.o.cP a);have Z:=cz λW(a:dS w W)=>qH b A hA J W (HR.o.cP a);have hd:rC b.l:=J.2;have f8:=J.len;have S:=qP w;clear hA J;obtain⟨T,d⟩:=dG (eu b.t cT);rw[d];unfold eu at d;rw[show b.t.cU=ez b.l from ae] at d;obtain⟨sn,a5⟩:=dG (pF cT);obtain⟨sv,u⟩:=dG ((sn.getD (tp,tp)));rw[a5,u] at C1;rw[a5] at d;clear a5 u;go_enter func66,ntmps66;cases sn with|none=>have e1:gq 141 (cw:Option (fM×fM))=141:=rfl;rw[e1] at C1;subst d;go_wp2_with (first|refine je S (C1.o _) λW S=>?_|refine A7 S (Z.o _ S.b) λW B c HB q o S=>?_|(refine mu ?_;exact⟨_,_,ae,⟨c,ae,q.o,S.jK o.o⟩,ir.nil _ _,S.b⟩)|refine fO ?_|refine fu λW S=>?_)|some sn=>
 have e1:gq 141 (cu sn)=0:=rfl;rw[e1] at C1;simp only at d;obtain⟨ni,s⟩:=dG (mi (ez b.l) cT);rw[show b.t.cU=ez b.l from ae,s] at C2;rw[s] at d;cases ni with|none=>subst d;simp only[lF] at C2;clear s;go_wp2_with (first|refine je S (C1.o _) λW S=>?_|refine je S (C2.o _ S.b) λW S=>?_|refine A7 S (Z.o _ S.b) λW B c HB q o S=>?_|(refine mu ?_;exact⟨_,_,ae,⟨c,ae,q.o,S.jK o.o⟩,ir.nil _ _,S.b⟩)|refine fO ?_|refine fu λW S=>?_)|some i=>
 simp only[lF] at C2 d;obtain⟨x,hx⟩:=wi s;have f9:=(oF.1 hx).1;have f3:(i:Int)<(b.l.n:Int):=cN;have f4:¬(i:Int)<0:=cN;have hg:dH (ez b.l) i=x.todu:=lG hx;rw[hg] at d;obtain⟨k,l,H⟩:=A8 R cN;have R9:=R.cU H;have b3:=cz R9;have Q:=cz (R9.at hx);have d8:=cz hx;have n:Hid (dO b 1=bX (cu ⟨k,l,cw⟩) b.l.n b.cap):=cz (by rw[<-H];rfl);have u:b.sv=bX (s_ k l) b.l.n b.cap:=by unfold dY.sv;rw[H]
 rw[u] at C3 C4 O C6;have C3:=cz (C3.o x.id);have C4:=cz (C4.o x.id);have C6:=cz (C6.o x.id);obtain⟨ch,b5⟩:=dG (xZ (ez b.l) x.id);rw[b5] at C3 d;clear s hx hg H u b5;go_upto_region 8 with(first|refine je S (C1.o _) λW S=>?_|refine je S (C2.o _ S.b) λW S=>?_|refine Ey S 1 ae 1 (v:=bX (s_ k l) b.l.n b.cap) n.o ?_|refine fO ?_|refine fu λW S=>?_);refine eO S dC λW S=>?_;refine dh 0 (dF w.h.s 1) ?_;refine ij 1 (bX (s_ k l) b.l.n b.cap) ae (uq S 1 (λ_ h=>h) ae 1 n.o rh ae sQ) ?_;refine dh 2 _ ?_;refine dh 3 (dF k (l+i*11)) ?_;refine dh 4 (dF k (l+i*11)) ?_;refine ij 5 (bU ct x.id) ae (gW (λw h=>by obtain⟨_,S⟩:=h;exact(Q.o.cP S.b).c0) ae gi) ?_;refine kK 6 λK f=>?_;go_wp2_with fail;refine ah (C3.o _ S.b) λr W⟨ho,a⟩=>?_;obtain⟨ra,rc,rfl⟩:=dx ho;replace S:=S.cP a;clear a ho;refine gy f ?_;clear f K;refine dh 7 (bU cq ch.n) ?_;refine dh 8 (bZ (decide (0<(ch.n:Int)))) ?_;refine qG ?_;by_cases h0:0<ch.n
 . rw[c8 h0] at d;subst d;have h1:(0:Int)<(ch.n:Int):=cN;go_wp2_with first|refine A7 S (Z.o _ S.b) λW B c HB q o S=>?_|(refine mu ?_;exact⟨_,_,ae,⟨c,ae,q.o,S.jK o.o⟩,ir.nil _ _,S.b⟩)|refine fO ?_|refine fu λW S=>?_
 . rw[cX h0] at d;have h1:¬(0:Int)<(ch.n:Int):=cN;obtain⟨nx,c6⟩:=dG (qS (ez b.l) x.id);have O:=cz (O.o nx);rw[c6] at C4 d;obtain⟨pj,L⟩:=dG (fp (ez b.l) nx);rw[L] at O d;clear c6 h0;go_upto_region 10 with(fail)
   cases pj with
   |none=>
    subst d;simp only[lF] at O;clear L;refine eO S dC λW S=>?_;refine dh 0 (dF w.h.s 1) ?_;refine ij 1 (bX (s_ k l) b.l.n b.cap) ae (uq S 1 (λ_ h=>h) ae 1 n.o rh ae sQ) ?_;refine dh 2 (dF w.h.s 1) ?_;refine ij 3 (bX (s_ k l) b.l.n b.cap) ae (uq S 1 (λ_ h=>h) ae 1 n.o rh ae sQ) ?_;refine dh 4 _ ?_;refine dh 5 (dF k (l+i*11)) ?_;refine dh 6 (dF k (l+i*11)) ?_;refine ij 7 (bU ct x.id) ae (gW (λw h=>by obtain⟨_,S⟩:=h;exact(Q.o.cP S.b).c0) ae gi) ?_;refine kK 8 λK f=>?_
    go_wp2_with fail
    refine je S (C4.o _ S.b) λW S=>?_;refine gy f ?_;clear f K;refine kK 9 λK f=>?_
    go_wp2_with fail
    refine je S (O.o _ S.b) λW S=>?_;refine gy f ?_;clear f K;refine dh 10 _ ?_;refine qG ?_
    go_wp2_with (first
   |refine A7 S (Z.o _ S.b) λW B c HB q o S=>?_
   |(refine mu ?_;exact⟨_,_,ae,⟨c,ae,q.o,S.jK o.o⟩,ir.nil _ _,S.b⟩)
   |refine fO ?_
   |refine fu λW S=>?_)
   |some j=>
    obtain⟨g1,y,hy,-⟩:=kP L;have b9:dH (ez b.l) j=y.todu:=lG hy;simp only[b9,lF] at d O;have f5:(j:Int)<(b.l.n:Int):=cN;have f6:¬(j:Int)<0:=cN;have e3:=cz hy;have HY:=cz (R9.at hy);have a8:=lu hy;have a6:=lu d8.o;have e7:=(hd.at a8).1;have e6:=(hd.at a6).1;obtain⟨fl,b7⟩:=dG (gr (ez b.l) x.id);rw[b7] at C6 d;have C7:=cz λW(a:dS w W)=>OH y.df y.dv fl W cN ((b3.o.cP a).2 y a8);have c7:=Su y.df fl;obtain⟨rs,c9⟩:=dG (oZ y.df fl);obtain⟨gn,c1⟩:=dG (jQ y.df fl);rw[c9] at C7 d c7;rw[c1] at C7 d;have Y:=cz λv W(a:dS w W)R1=>OJ rs x.df v x.dv W cN cN R1 ((b3.o.cP a).2 x a6);obtain⟨mg,c4⟩:=dG (jR rs x.df);rw[c4] at Y d;clear L hy b9 a8 a6 e7 e6 b7 c9 c1 c4 c7;refine eO S dC λW S=>?_;refine dh 0 (dF w.h.s 1) ?_;refine ij 1 (bX (s_ k l) b.l.n b.cap) ae (uq S 1 (λ_ h=>h) ae 1 n.o rh ae sQ) ?_;refine dh 2 (dF w.h.s 1) ?_;refine ij 3 (bX (s_ k l) b.l.n b.cap) ae (uq S 1 (λ_ h=>h) ae 1 n.o rh ae sQ) ?_;refine dh 4 _ ?_;refine dh 5 (dF k (l+i*11)) ?_;refine dh 6 (dF k (l+i*11)) ?_;refine ij 7 (bU ct x.id) ae (gW (λw h=>by obtain⟨_,S⟩:=h;exact(Q.o.cP S.b).c0) ae gi) ?_;refine kK 8 λK f=>?_
    go_wp2_with fail
    refine je S (C4.o _ S.b) λW S=>?_;refine gy f ?_;clear f K;refine kK 9 λK f=>?_
    go_wp2_with fail
    refine je S (O.o _ S.b) λW S=>?_;refine gy f ?_;clear f K;refine dh 10 _ ?_;refine qG ?_
    go_upto_region 13 with(fail)
    refine eR S dC [⟨w.h.s,99,2,dO b⟩] Cz λW S=>?_;refine dh 0 (dF w.h.s 1) ?_;refine ij 1 (bX (s_ k l) b.l.n b.cap) ae (gW (λw h=>by rw[cL.cell (h.row 0 ae) (i:=1) rh];exact gQ cu n.o) ae sQ) ?_;refine dh 2 _ ?_;refine dh 3 (dF k (l+j*11)) ?_;refine dh 4 (dF k (l+j*11+10)) ?_;refine ij 5 (y.dv) ae (gW (λw h=>(HY.o.cP h.fr.cP).c10) ae ox) ?_;refine dh 6 (dF w.h.s 1) ?_;refine ij 7 (bX (s_ k l) b.l.n b.cap) ae (gW (λw h=>by rw[cL.cell (h.row 0 ae) (i:=1) rh];exact gQ cu n.o) ae sQ) ?_;refine dh 8 _ ?_;refine dh 9 (dF k (l+i*11)) ?_;refine dh 10 (dF k (l+i*11)) ?_;refine ij 11 (bU ct x.id) ae (gW (λw h=>(Q.o.cP h.fr.cP).c0) ae gi) ?_;refine kK 12 λK f=>?_
    go_wp2_with fail
    refine je S (C6.o _ S.b) λW S=>?_;refine gy f ?_;clear f K;refine kK 13 λK f=>?_
    go_wp2_with fail
    refine(C7.o _ S.b).mono ?_;rintro e W ⟨r1,r2,rfl,a3,a4,a⟩;have a1:=cz a3.sl;obtain⟨e8,e9,rfl⟩:=dx a3;obtain⟨f1,f2,rfl⟩:=dx a4;replace S:=S.iw a a4 ae ae;clear a a3 a4;refine gy f ?_;clear f K;refine dh 14 _ ?_;refine dh 15 (bX e8 rs.n e9) ?_;refine dh 16 (bX f1 gn.n f2) ?_;refine dh 17 _ ?_;refine dh 18 _ ?_;refine qG ?_;cases mg with
    |none=>
     have e2:gq 131 (cw:Option (List cQ))=131:=rfl;rw[e2] at Y;subst d
     go_wp2_with first|(first|refine jo 87 107 86 ((Q.o.cP S.b).c10) ?_)|(refine ah (Y.o _ _ S.b a1.o) λr W⟨ho,a⟩=>?_;replace S:=S.cP a;clear ho a)|refine A7 S (Z.o _ S.b) λW B c HB q o S=>?_|(refine mu ?_;exact⟨_,_,ae,⟨c,ae,q.o,S.jK o.o⟩,ir.nil _ _,S.b⟩)|refine fO ?_|refine fu λW S=>?_
    |some al=>
    have e2:gq 131 (cu al)=0:=rfl;rw[e2] at Y;simp only[kL] at Y d;by_cases h4:4000<al.n
    . rw[c8 h4] at d;have h5:(4000:Int)<(al.n:Int):=cN;subst d
      go_wp2_with first|(first|refine jo 87 107 86 ((Q.o.cP S.b).c10) ?_)|(refine ah (Y.o _ _ S.b a1.o) λr W⟨ho,a⟩=>?_;obtain⟨M,N,rfl⟩:=dx ho;replace S:=S.cP a;clear ho a)|refine A7 S (Z.o _ S.b) λW B c HB q o S=>?_|(refine mu ?_;exact⟨_,_,ae,⟨c,ae,q.o,S.jK o.o⟩,ir.nil _ _,S.b⟩)|refine fO ?_|refine fu λW S=>?_
    . rw[cX h4] at d;have h5:¬(4000:Int)<(al.n:Int):=cN;have HT:=cz d;clear h4 d
      go_upto_region 18 with(first|(first|refine jo 87 107 86 ((Q.o.cP S.b).c10) ?_)|(refine ah (Y.o _ _ S.b a1.o) λr W⟨ho,a⟩=>?_;obtain⟨M,N,rfl⟩:=dx ho;have d5:=cz (show rD w.h.s ⟨{y.todu with df:=al,dB:=x.dB},M,N⟩ from λhn b a=>ik S.fr.size ((sG.of (x:=⟨{y.todu with df:=al,dB:=x.dB},M,N⟩) ho).2 hn b a));replace S:=S.A6 (y:=⟨{y.todu with df:=al,dB:=x.dB},M,N⟩) a ho;clear a ho)|(refine ah (Z.o _ S.b) λB W5⟨⟨⟨cn,m,ca,F⟩,hB,hc,ho⟩,a⟩=>?_;obtain⟨b6,I⟩:=ej.mk.inj hc;simp only at b6 I;subst b6;have c5:m.n=b.l.n:=(by have h9:=gQ length I;rwa [iv,iv] at h9);obtain⟨g,b4⟩:=vd ho amP;simp only at b4;subst b4;have b1:=cz c5;have HB:=cz hB;have HM:=cz I;have o:=cz (S.fresh ho);replace S:=S.kq a ho;clear c5;change St _ _ _ _ (⟨109,11,bX (s_ g 0) m.n F,m.n,ju m⟩::_) _ _ at S;clear a hB hc ho I)|refine fO ?_|refine fu λW S=>?_)
      have a2:j<m.n:=by have:=b1.o;omega
      have f7:(j:Int)<(m.n:Int):=cN;obtain⟨z,hz⟩:=dG (m[j]);have d2:z.todu=y.todu:=by
       have h9:(ez m)[j]?=(ez b.l)[j]?:=by rw[HM.o]
       rw[mZ,mZ,jG a2,hz,e3.o] at h9;exact wW h9
      have HZ:=cz hz;have e4:=cz d2;clear hz d2;refine eR S dC [⟨W5.h.s,99,2,dO ⟨b.next,m,s_ g 0,F⟩⟩] Cz λW S=>?_;refine dh 0 (dF W5.h.s 1) ?_;refine dh 1 (bX (s_ g 0) m.n F) ?_;refine dh 2 _ ?_;refine dh 3 (dF W5.h.s 1) ?_;refine dh 4 (bX (s_ g 0) m.n F) ?_;refine dh 5 _ ?_;refine dh 6 _ ?_;refine dh 7 _ ?_;refine dh 8 (dF k (l+i*11)) ?_;refine dh 9 (dF k (l+i*11+4)) ?_;refine ij 10 (bU ct x.dB) ae (gW (λw h=>(Q.o.cP h.fr.cP).c4) ae gi) ?_;refine dh 11 (dF g (j*11)) ?_;refine dh 12 (dF g (j*11+10)) ?_;refine kK 13 λK f=>?_;refine MK S 0 ae ae (j*11+10) (v:=bX M al.n N) (by show j*11+10<m.n*11;omega) ae ae ae ox λW S=>?_;refine gy f ?_;clear f K;refine dh 14 (dF g (j*11)) ?_;refine dh 15 (dF g (j*11+4)) ?_;refine kK 16 λK f=>?_;refine MK S 0 ae ae (j*11+4) (v:=bU ct x.dB) (by show j*11+4<m.n*11;omega) ae ae ae gi λW S=>?_;refine gy f ?_;clear f K;refine qG ?_;obtain⟨y1,a7⟩:∃y1:dL,y1=⟨{z.todu with df:=al},M,N⟩:=⟨_,ae⟩;obtain⟨D,C⟩:∃D:dL,D=⟨{y.todu with df:=al,dB:=x.dB},M,N⟩:=⟨_,ae⟩;have d1:D=⟨{z.todu with df:=al,dB:=x.dB},M,N⟩:=by rw[C,e4.o]
      have t:((ju m).set (j*11+10) (bX M al.n N)).set (j*11+4) (bU ct x.dB)=ju (m.set j D):=by
       rw[wj a2 HZ.o 10 cN _ y1 (λj hj=>by rw[a7];rcases j with(_|_|_|_|_|_|_|_|_|_|_|j)<;>first|rfl|omega),
        wj (x:=y1) (by rw[xM];exact a2) amQ 4 cN _ D (λj hj=>by rw[a7,d1];rcases j with(_|_|_|_|_|_|_|_|_|_|_|j)<;>first|rfl),set_set]
      obtain⟨E,p⟩:=dG (m.set j D);have c2:m.n=E.n:=by rw[<-p,xM]
      have X:ez E=(ez b.l).set j {y.todu with df:=al,dB:=x.dB}:=by
       rw[<-p,show ez (m.set j D)=(ez m).set j D.todu by unfold ez;rw[map_set],HM.o,C]
      have V:∀v∈E,rD w.h.s v:=λv hv=>by
       rw[<-p] at hv;rcases vB hv with h|h
       . exact o.o v h
       . rw[h,C];exact d5.o
      have U:∀v∈E,v∈m∨v=D:=λv hv=>vB (by rw[p];exact hv);rw[p] at t;have b2:=cz t;have d9:=cz C;have d6:=cz c2;have d7:=cz X;have d4:=cz V;have d3:=cz U;replace S:=S.EH (X':=λB w=>Ke D B w/\oL m B w) (λB w h=>by rw[d9.o];exact⟨h.1.2,h.2⟩) ((B8 D).and (jy m)).me;simp only[By] at S;rw[b2.o] at S;have w1:IntKind.i64.wrap ((i:Int)+1)=((i+1:Nat):Int):=by rw[kX _ cN];omega
      have e5:i<m.n:=by have:=b1.o;omega
      have c3:(E.eraseIdx i).n=m.n-1:=by rw[length_eraseIdx,c8 cN];omega
      have a9:=cz c3;clear c3 t a7 C d1 p c2 X V U
      go_wp2_with first|(first|refine jl 118 97 117 S 0 1 (bX (s_ g 0) m.n F) ?_)|(refine aj (DK E g F m.n i (i+1) w.h.s d6.o.symm e5 ae _ S.o0) λW6⟨ho,a⟩=>?_;replace S:=S.erased (j:=0) ae ho a;clear ho a)|(refine xD S 0 ae 1 (dO ⟨b.next,E.eraseIdx i,s_ g 0,F⟩) (λj hj=>by have hj:j<2:=hj;rcases j with(_|_|j);rfl;show Value.slice _ (E.eraseIdx i).n _=_;rw[a9.o];rfl;omega) rh ae ae ae sQ λW S=>?_;obtain⟨G,hG⟩:=fU (cM 2 (dO ⟨b.next,E.eraseIdx i,s_ g 0,F⟩));have HG:=cz hG;clear hG)|(refine mu ?_;rw[<-HT.o];exact⟨_,_,ae,⟨⟨b.next,E.eraseIdx i,s_ g 0,F⟩,ae,by unfold dY.t;rw[Qb,d7.o],⟨by have h9:=S.o0;unfold dY.sv;rw[a9.o];exact h9,λv hv=>⟨by rcases d3.o v (Bz hv) with h|h;exact(S.x.2 v h).1;rw[h];exact S.x.1.1,d4.o v (Bz hv)⟩⟩⟩,S.o1,S.b⟩)|refine fO ?_|refine fu λW S=>?_
end
section
theorem lN.obj{t:Nat}(h:lN d X)(ho:gZ t=cx):lN d (λB w=>X B w/\cL w b t n f):=
 ⟨λa c=>⟨h.cP a.1 c,cL.cP a.2 c⟩,λa c=>⟨h.add a.1 c,a.2⟩,λa l=>⟨h.mono a.1 l,a.2⟩,
  λa j c g k i=>⟨h.but a.1 j c g k i,cL.but a.2 c λe=>by rw[<-e,cL.ty a.2] at g;grind⟩,λa e=>h.dev a.1 e⟩
def St.wM(S:St w0 d l L O X w){t:Nat}(a:cL w b t n f)(ho:gZ t=cx):St w0 d l L O (λB w=>X B w/\cL w b t n f) w:=
 ⟨S.fr,S.row,S.own,S.lo,S.nd,⟨S.x,a⟩,S.me.obj ho⟩
theorem St.Nn(h:St w0 d l L O X w)(f:Fr d2 l2 w w')(b:∀D,d2=cu D->d=cu D)(i:∀k∈l2,k∈l∨w0.h.s<=k)(m:lN d X')(n:X' (eM L O) w'):St w0 d l L O X' w':=by
 refine⟨h.fr.step f b i,λr j=>?_,λo ho=>?_,h.lo,h.nd,n,m⟩
 . have a:=h.row r j;cases c:d2 with
   |none=>subst c;exact anj
   |some D=>
    subst c;rcases a.2.2 with h1|h1
    . grind[cL.fr]
    . exact⟨cL.frX a.1 f (h1 D (b D ae)) (.inl a.2.1),a.2.1,.inr λp e=>by
       rcases wW (e.symm.trans (b D ae)) with rfl
       grind[Fr.adi,cL.lt]⟩
 have q:=h.own o ho;grind[BQ]
theorem St.wrote(h:St w0 d l L O X w){t:Nat}(a:cL w G t n f)(ho:gZ t=cx)(b:jZ G w w')(j:G∈l∨w0.h.s<=G)(c:lN d X')(g:X' (eM L O) w'):St w0 d l L O X' w':=
 h.Nn (d2:=cw) (l2:=[G]) (Fr.rO b (cL.ty a) ho (fS.2 ae)) (λD e=>by cases e) (λk i=>by grind) c g
end
section
variable {x:Nat}
def aeD{t:Nat}(b:cL w G t n f)(i:Nat){q:Operand}(o:i<n)(l:a.eval (.tmp x)=bW (cu ⟨G,i,cw⟩))(m:a.eval q=v)(k:v.oneCell'=cx)(e:lD P ty)(g:Nat->c7)(c:∀j,j<n->g j=if j=i then v else f j)(h:∀W,jZ G w W->cL W G t n g->wpList P ops Q rest (a.put cw undef) W):wpList P ops Q (⟨cw,.store ty (.tmp x) q,t2,p,af,cw⟩::rest) a w:=
 BX (nT b cN) l m k e (h _ (qC _ _ _ _) ((cL.set b i v).congr λj d=>(c j d).symm))
theorem aiQ{t:Nat}(d:cL w G t n f)(o:Nat){e:Nat->c7}(u:o+m<=n)(r:a.eval (.tmp x)=bW (cu ⟨G,o,cw⟩))(s:a.eval (.tmp y)=bV A)(c:A=cM m e)(q:ky P ty m)(b:∀i,(e i).oneCell'=cx)(g:Nat->c7)(k:∀j,j<n->g j=if o<=j/\j<o+m then e (j-o) else f j)(h:∀W,jZ G w W->cL W G t n g->wpList P ops Q rest (a.put cw undef) W):wpList P ops Q (⟨cw,.store ty (.tmp x) (.tmp y),t2,p,af,cw⟩::rest) a w:=by
 subst c;refine wpList_store_mid (op:=⟨cw,.store ty (.tmp x) (.tmp y),t2,p,af,cw⟩) ae ty (.tmp x) (.tmp y) ae G o (cM m e) r s (by grind[cW,nT]) (by rw[cW];exact q.2) (oD e b) (h _ (jZ.setCells _ _ _ _) ?_);refine cL.congr (cL.setCells _ o d) λj l=>?_;rw[k j l];unfold L6;rw[nA,cW];by_cases hc:o<=j/\j<o+m;rw[c8 hc,c8 hc];show(cM m e).t.getD (j-o) _=e (j-o);rw[zB,nL,dy,c8 cN];rfl
 grind
end
def qK(G:Nat)(g:iV)(D M:Nat)(s:Pl):cV->cS->Prop:=λB w=>((CR g.P D M s B w/\cL w G 145 11 (wu g))/\rU g.b.sv g.b.l B w)/\yQ 106 3 g.hv g.dI.n (iZ g.dI) B w
def iB(G:Nat)(g:iV)(D M:Nat)(s:Pl):lN (cu D) (qK G g D M s):=
 (((dR g.P D M s).obj (t:=145) (n:=11) (b:=G) (f:=wu g) ae).still (fP g.b.sv g.b.l)).still (fF 106 3 g.hv _ _ ae ae)
theorem qK.at(h:qK G g D M s B w):dZ w G g D M s:=⟨h.1.1.2,h.1.1.1,h.1.2.sl,h.2.1⟩
theorem dZ.x(h:dZ w G g D M s):qK G g D M s [] w:=⟨⟨⟨h.kB,h.row⟩,gC.x h.wZ⟩,⟨h.dI,λ_ _ _=>by simp⟩⟩
def SEG(w0:cS)(d:Option Nat)(l:cV)(rs:List R4)(G:Nat)(g:iV):cS->Prop:=λW=>∃L O X,St w0 d l L O X W/\(∀r∈rs,r∈L)/\cL W G 145 11 (wu g)
theorem SEG.row(h:SEG w0 d l rs G g W)(k:Nat)(a:rs[k]?=cu r):cL W r.b r.t r.n r.f:=by obtain⟨L,O,X,S,b,_⟩:=h;exact(S.row r (b r (lu a))).1
def SEG.Hz(h:SEG w0 d l rs G g W):cL W G 145 11 (wu g):=by obtain⟨L,O,X,S,_,a⟩:=h;exact a
theorem SEG.cell{w0 W:cS}{d:Option Nat}{l:cV}{rs:List R4}{G:Nat}{g:iV}(h:SEG w0 d l rs G g W)(i:Nat)(a:i<11):W.cell? ⟨G,i,cw⟩=cu (wu g i):=cL.cell h.Hz a
def St.aeE{c:dY}(S:St w0 d l L (⟨109,11,c.sv,c.l.n,ju c.l⟩::O) (λB w=>X B w/\oL c.l B w) w)(b:∀x∈c.l,rD w0.h.s x):u9 w w0.h.s c:=
 ⟨S.o0,λx a=>⟨(S.x.2 x a).1,b x a⟩⟩
def No(S:St w0 d l L O X w){id:Nat}(c:P.follows .mixedOrders=cx)(rs:List R4)(e:∀r∈rs,r∈L)(b:cL w G 145 11 (wu g))(h:∀W,St w0 d l L O X W->wpAnyH P .any ops Q (SEG w0 d l rs G g) ops.s (Array.replicate ops.s cy) a W):(Code.region id ops cx).wp P Q a w:=
 wp_region_held_drew c ⟨L,O,X,S.drew,e,b.cP ((gK _ _).drew)⟩ λ_=>h _ S.drew
def abS(g:iV)(c:dY):∀j,j<11->wu {g with b:=c} j=if 1<=j/\j<1+2 then dO c (j-1) else wu g j:=by intro j a;unfold wu;rcases j with(_|_|_|_|j)<;>first|rfl
section
attribute[local irreducible]wpList Code.wp Calls Oper.wp wpAnyH
def tZ(G D M:Nat)(g:iV)(s:Pl)(b:dY)(A:gJ)(i:A=cM 2 (dO b))(d:zf b.t)(w:cS)(h:dZ w G g D M s)(R:jd w b):
 CP_ 55 #[bW (cu ⟨G,0,cw⟩),bV A] w λe w'=>∃c:dY,e=cj (cg #[])/\c.t=b.t/\dZ w' G {g with b:=c} D M s/\u9 w' w.h.s c/\Fr cw [G] w w':=by have y:=cz i;have a:=cz h;have p:=cz λW(f:Fr cw [G] w W)=>Am b A i d W (show gC W b.sv b.l from(show gC w b.sv b.l from R).fr f);have S:=St.start w cw [G] (xl.obj (t:=145) (n:=11) (b:=G) (f:=wu g) ae) ⟨iC,h.row⟩;clear h i d R;go_enter func55,ntmps55;go_wp2_with (first|(go_at_call 102;refine A7 S (p.o _ S.fr) λW B c q r u S=>?_)|((with_reducible refine wI 99 8 6 ?_);refine aiQ S.x.1.2 1 (m:=2) cN ae ae q.o nU (fW _) (wu {g with b:=c}) (abS g c) ?_;intro z l o;replace S:=S.wrote (X':=λB w=>(True/\cL w G 145 11 (wu {g with b:=c}))/\oL c.l B w) S.x.1.2 ae l (.inl (fS.2 ae)) (((xl.obj (t:=145) (n:=11) (b:=G) (f:=wu {g with b:=c}) ae).still (jy c.l))) ⟨⟨iC,o⟩,(jy c.l).fr S.x.2 (Fr.rO l (cL.ty S.x.1.2) ae (fS.2 ae))⟩;clear o)|refine fO ?_|refine fu λW S=>?_);refine FW (vQ ae _ _ _) ae ?_;have d:=S.fr;have x:g.P∉ [G]:=λj=>rE (cL.ty a.o.kB.row) (cL.ty a.o.row) kM (fS.1 j);have v:M∉ [G]:=λj=>rE (cL.ty a.o.kB.map) (cL.ty a.o.row) kM (fS.1 j);have k:=S.aeE u.o;exact⟨c,ae,r.o,⟨S.x.1.2,a.o.kB.fr d x v,k.sl,(show dg w 106 3 g.hv g.dI.n (iZ g.dI) from a.o.dI).fr d aD ae⟩,k,d⟩
end
structure GT where
 b:ej
 dI:List cQ
 ub:qZ
 s:Pl
def iV.gt(g:iV)(s:Pl):GT:=⟨g.b.t,g.dI,g.ub,s⟩
def qk(x:GT)(m:Pl×(cQ×(List cQ×Int))):qZ:=⟨iR x.ub.kJ,m.1.cR,m.2.1,40,m.1.dv.n⟩
def q8(x:GT)(m:Pl×(cQ×(List cQ×Int))):GT×Int:=
 if m.2.2.2≠0 then({x with s:=m.1},m.2.2.2) else
 if(dP m.1.dv (qk x m)).2≠0 then({x with s:={m.1 with dv:=(dP m.1.dv (qk x m)).1}},(dP m.1.dv (qk x m)).2)
 else({x with dI:=m.2.2.1,ub:=qk x m,s:=oU {m.1 with dv:=(dP m.1.dv (qk x m)).1}},0)
def iS(x:GT):GT×Int:=q8 x (gg x.s x.b x.dI)
def zm(w w':cS)(G D M:Nat)(g:iV)(r:GT×Int)(e:Ending):Prop:=
 ∃a s2,e=cj (bU cq r.2)/\a.P=g.P/\dZ w' G a D M s2/\a.gt s2=r.1/\(fQ g.dI->fQ a.dI)/\Fr (cu D) [G,M,g.P] w w'
def qK.pl(h:qK G g D M s B w)(f:Fr d l w w')(a:G∉l)(b:fh w' g.P D M s'):qK G g D M s' B w':=
 ⟨⟨⟨b,cL.fr h.1.1.2 f ax (.inr a)⟩,(fP g.b.sv g.b.l).fr h.1.2 f⟩,(fF 106 3 g.hv _ _ ae ae).fr h.2 f⟩
def qK.Pa(h:qK G g D M s B w):G≠g.P/\G≠M/\g.P≠M:=
 ⟨rE (cL.ty h.1.1.2) (cL.ty h.1.1.1.row) kM,rE (cL.ty h.1.1.2) (cL.ty h.1.1.1.map) kM,rE (cL.ty h.1.1.1.row) (cL.ty h.1.1.1.map) kM⟩
section
def St.ahV(S:St w0 (cu D) l L O (qK G g D M s) w)(f:Fr d2 l2 w w')(c:∀a,d2=cu a->cu D=cu a)(d:∀k∈l2,k∈l∨w0.h.s<=k)(b:G∉l2)(e:fh w' g.P D M s'):St w0 (cu D) l L O (qK G g D M s') w':=
 S.call f c d (iB G g D M s') λB h=>h.pl f b e
theorem St.Yk(S:St w0 (cu D) l L O (qK G g D M s) w){c:dY}(h:dZ w' G {g with b:=c} D M s)(o:u9 w' w.h.s c)(f:Fr cw [G] w w')(q:G∈l∨w0.h.s<=G):St w0 (cu D) l L O (qK G {g with b:=c} D M s) w':=by refine S.Nn (d2:=cw) (l2:=[G]) f (λD e=>by cases e) (λk p=>by grind) (iB G _ D M s) ⟨⟨⟨h.kB,h.row⟩,⟨⟨h.wZ.1,λi b a d=>?_⟩,λx j=>⟨(o.2 x j).1,λi b a d=>?_⟩⟩⟩,(fF 106 3 g.hv _ _ ae ae).fr S.x.2 f⟩;have m:=(o.1.lt b a).1;have n:=S.lt b d;omega;have m:=(o.2 x j).2 i b a;have n:=S.lt b d;omega
end
def Np(G:Nat)(g:iV)(D M:Nat)(s:Pl):cV->cS->Prop:=λB w=>(CR g.P D M s B w/\cL w G 145 11 (wu g))/\rU g.b.sv g.b.l B w
def Nq(G:Nat)(g:iV)(D M:Nat)(s:Pl):lN (cu D) (Np G g D M s):=
 ((dR g.P D M s).obj (t:=145) (n:=11) (b:=G) (f:=wu g) ae).still (fP g.b.sv g.b.l)
def Np.Pa(h:Np G g D M s B w):G≠g.P/\G≠M/\g.P≠M:=
 ⟨rE (cL.ty h.1.2) (cL.ty h.1.1.row) kM,rE (cL.ty h.1.2) (cL.ty h.1.1.map) kM,rE (cL.ty h.1.1.row) (cL.ty h.1.1.map) kM⟩
section
variable {x:Nat}
def St.aeF(S:St w0 (cu D) l L O (Np G g D M s) w)(f:G∈l∨w0.h.s<=G)(a:jZ G w w')(e:g'.P=g.P)(d:g'.b=g.b)(i:cL w' G 145 11 (wu g')):St w0 (cu D) l L O (Np G g' D M s) w':=by
 have b:Fr cw [G] w w':=Fr.rO a (cL.ty S.x.1.2) ae (fS.2 ae);have c:=S.x.Pa;refine S.wrote S.x.1.2 ae a f (Nq G g' D M s) ⟨⟨?_,i⟩,?_⟩;show fh w' g'.P D M s;rw[e];exact fh.fr S.x.1.1 b (λh=>c.1 (fS.1 h).symm) (λh=>c.2.1 (fS.1 h).symm)
 rw[d];exact(fP _ _).fr S.x.2 b
def aiS(S:St w0 (cu D) l L O (Np G g D M s) w)(c:G∈l∨w0.h.s<=G)(b:List cQ)(ho:Option Addr)(hc:Nat){q:Operand}(e:a.eval (.tmp x)=bW (cu ⟨G,3,cw⟩))(f:a.eval q=bX ho b.n hc)(d:lD P ty)(h:∀W,St w0 (cu D) l L O (Np G {g with dI:=b,ho:=ho,hc:=hc} D M s) W->K (a.put cw undef) W):Oper.wp P ⟨cw,.store ty (.tmp x) q,t2,p,af,cw⟩ a w K Q:=by refine Zt (nT S.x.1.2 (n:=1) cN) e f ae d (h _ ?_);refine S.aeF c (qC _ _ _ _) ae ae ((cL.set S.x.1.2 3 _).congr λj i=>?_);unfold wu;rcases j with(_|_|_|_|j)<;>first|rfl
theorem ala(S:St w0 (cu D) l L O (Np G g D M s) w)(c:G∈l∨w0.h.s<=G)(u:qZ)(e:a.eval (.tmp x)=bW (cu ⟨G,4,cw⟩))(f:a.eval (.tmp y)=bV U)(b:U=cM 7 (k7 u))(d:ky P ty 7)(h:∀W,St w0 (cu D) l L O (Np G {g with ub:=u} D M s) W->K (a.put cw undef) W):Oper.wp P ⟨cw,.store ty (.tmp x) (.tmp y),t2,p,af,cw⟩ a w K Q:=by
 subst b;refine wp_store_mid (op:=⟨cw,.store ty (.tmp x) (.tmp y),t2,p,af,cw⟩) ty (.tmp x) (.tmp y) ae G 4 (cM 7 (k7 u)) e f (by rw[cW];exact nT S.x.1.2 cN) (by rw[cW];exact d.2) (oD _ (uk u)) (h _ ?_);refine S.aeF c (jZ.setCells _ _ _ _) ae ae (cL.congr (cL.setCells _ 4 S.x.1.2) λj i=>?_);unfold L6;rw[nA,cW];by_cases hc:4<=j/\j<4+7
 . rw[c8 hc];refine(show(cM 7 (k7 u)).t.getD (j-4) _=k7 u (j-4) from by
    rw[zB,nL,dy,c8 cN];rfl).trans ?_
   unfold wu;grind
 rw[cX hc];unfold wu;split;rfl;split;rfl;split;rfl;omega
end
theorem abT(d:Dv):(fm d).ops<=d.ops+1:=by unfold fm;grind
theorem Yl(d:Dv)(i:Int):(iq d i).1.ops<=d.ops+1:=abT d
theorem Vk(s:Pl)(q:cQ)(i:Int):(qF s q i).1.dv.ops<=s.dv.ops+3:=by unfold qF;have a:=uT s q i.m;split;grind;grind[Jl]
theorem Vl(s:Pl)(q:cQ)(i:Int)(b:cV):(lh s q i b).1.dv.ops<=s.dv.ops+5:=by unfold lh;have a:=uT s q i.m;have c:=Jm (fB s q i.m).1 b;have d:=nI (tC (fB s q i.m).1 b).1;simp only;split;grind;split;grind;grind[nI]
theorem Ym(s:Pl)(y:Way)(q:cQ)(i:Nat):(om s y q i).1.dv.ops<=s.dv.ops+2:=by
 unfold om;simp only;generalize hk:(if rR (jn y.mE (i%8) cY)=cx then(if rR (jn y.first (i/8) cY)=cx then 0 else 1) else 2)=k;split;grind;have a:∀n2(k:Nat),(if k=2 then fE s n2 else(s,(cY,0))).1.dv.ops<=s.dv.ops+1:=by intro n2 k;have:=nI s n2;grind
 grind[nI]
theorem Sv(s:Pl)(q:cQ)(i:Int):(iF s q i).1.dv.ops<=s.dv.ops+4:=by unfold iF;have a:=uT s q i.m;simp only;split;grind;grind[Ym]
theorem Vm(cR:Nat)(x:Pl×(List cQ×Int))(q:cQ):(jU cR x q).1.dv.ops<=x.1.dv.ops+1:=by unfold jU;have h:=xW x.1 q;grind
theorem Kv(s:Pl)(q:cQ)(st:Nat):(fR s q st).1.dv.ops<=s.dv.ops+9:=by unfold fR;have h:=xW s q;split;grind;grind[Bd,Vm,qe,uj]
theorem Sw(x:Pl×(cV×Int))(q:cQ):(jW x q).1.dv.ops<=x.1.dv.ops+1:=by unfold jW;have h:=Jl x.1 q;grind
theorem Pb(want:Nat)(x:Pl×(List cQ×Int))(q:cQ):(fX want x q).1.dv.ops<=x.1.dv.ops+1:=by unfold fX;have h:=xW x.1 q;grind
def Pc(s:Pl)(l:List cQ)(want:Nat):(fY s l want).1.dv.ops<=s.dv.ops+l.n:=Bd (Pb want) l _
theorem Sx(s:Pl)(l:List cQ)(n:Nat):(fc s l n).1.dv.ops<=s.dv.ops+l.n:=by grind[pG,Bd,Sw,fc]
theorem Sy(want:Nat)(x:Pl×(List cQ×Int))(q:cQ)(a:x.2.1.n<=want):(fX want x q).2.1.n<=want:=by unfold fX;grind
theorem Sz(s:Pl)(l:List cQ)(want:Nat):(fY s l want).2.1.n<=want:=by
 unfold fY;suffices ∀(l:List cQ)(x:Pl×(List cQ×Int)),x.2.1.n<=want->(l.foldl (fX want) x).2.1.n<=want from this l _ (gG _)
 intro l;induction l<;>grind[Sy]
theorem SA(x:Pl×(List cQ×List cQ×Int))(want:Nat)(c:x.2.1.n<=512)(b:want<=512):(ji x want).1.dv.ops<=x.1.dv.ops+512/\(ji x want).2.1.n<=512:=by unfold ji;have h:=Pc x.1 x.2.1 want;have a:=Sz x.1 x.2.1 want;grind
def It:∀(ws:cV)(x:Pl×(List cQ×List cQ×Int)),x.2.1.n<=512->(∀w∈ws,w<=512)->(ws.foldl ji x).1.dv.ops<=x.1.dv.ops+512*ws.n/\(ws.foldl ji x).2.1.n<=512
 | [],x,hx,_=>⟨xN _ _,hx⟩
 |a::ws,x,hx,hw=>by
  have c:=SA x a hx (hw a nB);have d:=It ws (ji x a) c.2 λb e=>hw b (kT _ e);rw[zC,lq];exact⟨cN,d.2⟩
theorem x8(s:Pl)(cO:cQ)(n:Int):(eP s cO n).1.dv.ops<=s.dv.ops+6200:=by
 unfold eP;have b:(qT n).n<=11:=by grind[zj,qT]
 have a:=It (qT n) (s,([cO],[cO],0)) eQ λw c=>Bb n w (by
  grind[qT,dropLast_subset])
 simp only at a;simp only;split;grind;grind[Sx]
theorem ag5(a:Pl×(cV×(List cQ×Int)))(q p2:cQ)(n2:Nat):(mw5 a q p2 n2).1.dv.ops<=a.1.dv.ops+6200:=by unfold mw5;have h:=x8 a.1 p2 (n2:Nat);grind
theorem ag6(a:Pl×(cQ×Int))(p1:cQ)(n1:Nat)(p2:cQ)(n2:Nat):(mw4 a p1 n1 p2 n2).1.dv.ops<=a.1.dv.ops+12400:=by unfold mw4;have h:=x8 a.1 p1 (n1:Nat);split;grind;grind[ag5]
theorem ag7(a:Pl×(cQ×Int))(p1:cQ)(n1 n2 ee:Nat):(mw3 a p1 n1 n2 ee).1.dv.ops<=a.1.dv.ops+12401:=by unfold mw3;split;grind;split;grind;grind[uA,ag6]
theorem ag8(a:Pl×(cQ×Int))(n1:Nat)(ee:cV):(mw2 a n1 ee).1.dv.ops<=a.1.dv.ops+14401:=by unfold mw2;split;grind;split;grind;grind[x7,ag7]
theorem Pd(s:Pl)(text ee:cV):(gO s text ee).1.dv.ops<=s.dv.ops+16401:=by grind[gO,x7,ag8]
theorem Iu(s:Pl)(b:ej)(iW:List cQ):(gg s b iW).1.dv.ops<=s.dv.ops+16401:=by unfold gg;have a:=gQ Dv.ops (qj iW s);split;grind;grind[Pd]
theorem Nr(d:Dv)(u:qZ):(dP d u).1.ops<=d.ops+3:=by unfold dP;split;grind;grind[Kc,zU]
theorem Fx(s:Pl)(b:ej)(iW:List cQ):(gg s b iW).2.2.1.n<=20000:=by unfold gg;split;grind;split;grind;unfold gO mw2;split;grind;split;grind;unfold mw3;split;grind;split;grind;unfold mw4;split;grind;unfold mw5;split;grind;split;grind;simp only[jv,lq,ue];have a:=sK;grind
theorem ake(u:qZ):cM 7 (k7 u)=#[bU ct u.kJ,bU ct u.cR,bU cq u.iG.1,bU ct u.iG.2.1,bU .u32 u.iG.2.2,bU cq u.len,bU cq u.gx]:=rfl
section
attribute[local irreducible]wpList Code.wp Calls Oper.wp wpAnyH
def Fy(G D M:Nat)(g:iV)(s:Pl)(ht:fi g.b.t)(C:fQ g.dI)(hl:g.dI.n<=100000)(ho:s.dv.ops<=990000000)(w:cS)(h:dZ w G g D M s):
 CP_ 122 #[bW (cu ⟨G,0,cw⟩)] w λe w'=>zm w w' G D M g (iS (g.gt s)) e:=by
 obtain⟨B,hB⟩:=fU (cM 2 (dO g.b));have HB:=cz hB;have hn:=qK.Pa h.x;have S:=St.start w (cu D) [G,M,g.P] (iB G g D M s) h.x;have V:=cz λW(X:dZ W G g D M s)=>Sm g.P D M s ho g.b B hB ht g.dI C hl g.hv W X.kB X.wZ X.dI;have z:=Iu s g.b.t g.dI;have H:=Fx s g.b.t g.dI;have HG:=cz (show iS (g.gt s)=q8 (g.gt s) (gg s g.b.t g.dI) from ae);obtain⟨m,hm⟩:=dG (gg s g.b.t g.dI);rw[hm] at V HG z H;have y:m.1.dv.ops<=999000000:=cN;have I:=cz y;have a1:=cz H;obtain⟨s1,q,b,c⟩:=m;simp only at V I a1;clear h hB ht C hl ho z hm H y;unfold iV.hv at V;go_enter func122,ntmps122;go_upto_region 1 with(fail);refine No S dC [] (by intro r hr;cases hr) (S.x.1.1.2) λW S=>?_;refine dh 0 _ ?_;refine dh 1 (dF G 0) ?_;refine dh 2 (dF G 0) ?_;refine ij 3 (dF g.P 0) ae (gW (λw h=>h.cell 0 cN) ae MT) ?_;refine dh 4 _ ?_;refine dh 5 (dF G 0) ?_;refine dh 6 (dF G 1) ?_;refine ij 7 (bV B) ae (yKn (λw h=>h.Hz) (o:=1) (m:=2) ae (dO g.b) cN (λi hi=>by rcases i with(_|_|i)<;>first|rfl|omega) HB.o nU) ?_;refine dh 8 _ ?_;refine dh 9 (dF G 0) ?_;refine dh 10 (dF G 3) ?_;refine ij 11 (bX g.ho g.dI.n g.hc) ae (gW (λw h=>h.cell 3 cN) ae ox) ?_;repeat' first|refine Th ?_|refine nz 13 _ ?_|refine nz 14 (bV A) ?_|refine nz 15 (bX L b.n hc) ?_|refine nz 16 (bU cq c) ?_|refine nz 19 _ ?_|refine nz 20 _ ?_|refine Bt 12 17 (λK a=>?_) λK a=>?_|refine qf 12 λK a=>?_|refine qf 18 λK a=>?_|refine qf 17 λK a=>?_|(refine gu S xE iU ae λE6 W S=>?_;refine gy a ?_)|(go_wp2_with fail;refine(V.o _ S.x.at).mono ?_;rintro e W ⟨A,r,rfl,hA,Q,ho,O,C,j⟩;have HA:=cz hA;have a3:=cz Q;have a2:=cz O;have HF:=cz (dx ho);have J:=λB(d:qK G g D M s B _)=>d.pl j (by rw[fS];exact hn.2.1) C;replace S:=S.um j aw (by intro k hk;rw[fS.1 hk];exact .inl eQ) (iB G g D M s1) J ho ae ae;clear hA Q ho O C J;obtain⟨L,hc,rfl⟩:=HF.o;refine gy a ?_)|(refine km S 0 ae ae ae HA.o fL (dJ _) λW S=>?_;refine gy a ?_)
 all_goals(
  refine cz ?_;by_cases n:c=0
  case neg=>
   have g3:(c !=0)=cx:=fK.2 n;have HR:=cz (show iS (g.gt s)=({g.gt s with s:=s1},c) from by rw[HG.o];unfold q8;rw[c8 n]);clear n;go_wp2;go_ret;rw[HR.o];exact amq
  subst n;obtain⟨x,d⟩:=dG (g.gt s);obtain⟨n1,p⟩:=dG (iR g.ub.kJ);have w1:IntKind.u64.wrap ((g.ub.kJ:Int)+1)=((n1:Nat):Int):=by rw[<-p];exact wH _
  obtain⟨a5,f⟩:=dG s1.cR;obtain⟨nn,t⟩:=dG s1.dv.n;obtain⟨u,hu⟩:∃u:qZ,u=⟨n1,a5,q,40,nn⟩:=⟨_,ae⟩;have R:qk x (s1,q,b,0)=u:=by rw[hu,<-p,<-f,<-t,<-d];rfl
  have T:oP u:=by
   rw[hu];have h1:=S.x.1.1.1.ok.1;have h2:=fh.qD S.x.1.1.1;rw[f] at h1;rw[t] at h2;exact⟨by rw[<-p];exact Ds _,h1,a3.o,(show(40:Nat)<4294967296 by decide),by show nn<4294967296;omega⟩
  obtain⟨U,Z⟩:=fU (cM 7 (k7 u));have C2:=cz λW(X:dZ W G g D M s1)=>nP g.P D M s1.cR s1.base W X.kB.row;have C3:=cz λW(X:dZ W G g D M s1)=>wG g.P D M s1.cR s1.base W X.kB.row;have C4:=cz λW(X:dZ W G g D M s1)=>Ag D s1.dv W X.kB.dev;have Y:=cz λW(X:dZ W G g D M s1)=>My D s1.dv (ik I.o kM) u T W X.kB.dev;rw[<-Z] at Y;have F:=Z;rw[hu,ake] at F;have a4:=cz F;have HU:=cz Z;rw[f] at C3;rw[t] at C4;have E:=cz (show iS x=if(dP s1.dv u).2≠0 then({x with s:={s1 with dv:=(dP s1.dv u).1}},(dP s1.dv u).2) else({x with dI:=b,ub:=u,s:=oU {s1 with dv:=(dP s1.dv u).1}},0) from by
   rw[<-d,HG.o];unfold q8;rw[d,R];rfl)
  obtain⟨l,N⟩:=dG (dP s1.dv u);rw[N] at E Y;obtain⟨l,c2⟩:=l;simp only at E Y;rw[<-d] at E;clear Z F hu R T f t p N d
  go_upto_region 5 with(first|((with_reducible refine aQ_ ?_);refine zw S.x.at.c0 ?_)|(go_at_call 106;refine mG (C2.o _ S.x.at) ?_;))
  refine No S dC [⟨E6,106,3,dE q⟩] Cz (S.x.1.1.2) λW S=>?_;refine dh 0 _ ?_;refine dh 1 (dF G 0) ?_;refine dh 2 (dF G 4) ?_;refine dh 3 (dF G 4) ?_;refine ij 4 (bU ct g.ub.kJ) ae (gW (λw h=>h.cell 4 cN) ae gi) ?_;refine dh 5 (bU ct n1) ?_;refine dh 6 _ ?_;refine dh 7 (dF G 0) ?_;refine dh 8 (dF G 0) ?_;refine ij 9 (dF g.P 0) ae (gW (λw h=>h.cell 0 cN) ae MT) ?_;refine ij 11 (bV #[bU cq q.1,bU ct q.2.1,bU .u32 q.2.2]) ae (rA bf ae (zI q).symm fL) ?_;refine dh 12 _ ?_
  repeat' first|refine Th ?_|refine nv_ 14 (bV U) ae (yU ae (by rw[a4.o];kernel_rfl)) ?_|refine Bt 10 15 (λK a=>?_) λK a=>?_|refine qf 10 λK a=>?_|refine qf 13 λK a=>?_|refine qf 16 λK a=>?_|refine Bt 13 15 (λK a=>?_) λK a=>?_|refine qf 15 λK a=>?_|(refine gu S zeroValue143 Zh ae λE7 W S=>?_;refine gy a ?_)|(go_wp2_with fail;refine mG (C3.o _ S.x.at) ?_;refine gy a ?_)|(go_wp2_with fail;refine mG (C4.o _ S.x.at) ?_;refine gy a ?_)|(refine km S 0 ae ae ae HU.o Fh (uk _) λW S=>?_;refine gy a ?_)
  all_goals(
   refine cz ?_
   go_upto_region 7 with(first|(go_at_call 170;refine aj (Y.o _ S.x.at) λW⟨hd,j⟩=>?_;have J:=λB(d:qK G g D M s1 B _)=>d.pl (s':={s1 with dv:=l}) j eQ ⟨cL.fr d.1.1.1.row j ax (.inr eQ),hd,d.1.1.1.map.fr j eQ,d.1.1.1.ok⟩;replace S:=S.call j aw eQ (iB G g D M {s1 with dv:=l}) J;clear hd J)|refine fO ?_)
   by_cases n:c2=0
   case neg=>
    have g3:(c2 !=0)=cx:=fK.2 n;rw[c8 n] at E;clear n;go_wp2;go_ret;rw[E.o];exact⟨g,{s1 with dv:=l},ae,ae,S.x.at,ae,id,S.fr⟩
   subst n;rw[cX aI] at E;replace S:=S.EH (X':=Np G g D M {s1 with dv:=l}) (λB w h=>h.1) (Nq G g D M _)
   go_upto_region 9 with(fail)
   refine eR S dC [⟨E7,143,7,k7 u⟩] Cz λW S=>?_;refine dh 0 _ ?_;refine dh 1 _ ?_;refine dh 2 _ ?_;refine ij 3 (bV U) ae (rA bf ae HU.o Fh) ?_;refine dh 4 (dF G 0) ?_;refine dh 5 (dF G 3) ?_;refine kK 6 λK a=>?_;refine aiS S aZ b L hc ae ae ox λW S=>?_;refine gy a ?_;refine dh 7 (dF G 0) ?_;refine dh 8 (dF G 4) ?_;refine kK 9 λK a=>?_;refine ala S aZ u ae ae HU.o Fh λW S=>?_;refine gy a ?_;refine qG ?_
   all_goals(
    replace S:St w (cu D) [G,M,g.P] _ _ (Np G ⟨g.P,g.b,b,L,hc,u⟩ D M {s1 with dv:=l}) W:=S
    go_wp2_with first|((with_reducible refine aQ_ ?_);refine zw (v:=dF g.P 0) (cL.cell S.x.1.2 (i:=0) cN) ?_)|(go_at_call 171;refine aj (Mk g.P D M _ _ S.x.1.1) λW⟨C,j⟩=>?_;have hG:G∉ [g.P,M]:=(by rintro(_|⟨_,_|⟨_,h⟩⟩);exact hn.1 ae;exact hn.2.1 ae;cases h);replace S:=S.call j (λD e=>by cases e) (λk hk=>.inl (by simp only[iX,jL,uH] at hk|-;rcases hk with h|h;exact .inr (.inr h);exact .inr (.inl h))) (Nq G ⟨g.P,g.b,b,L,hc,u⟩ D M (oU {s1 with dv:=l})) (λB d=>⟨⟨C,cL.fr d.1.2 j aD (.inr hG)⟩,(fP _ _).fr d.2 j⟩);clear C hG)
    go_ret;rw[E.o];exact⟨⟨g.P,g.b,b,L,hc,u⟩,oU {s1 with dv:=l},ae,ae,⟨S.x.1.2,S.x.1.1,S.x.2.sl,S.q0⟩,ae,λ_=>a2.o,S.fr⟩)))
def gD(x:GT):GT×Int:=
 if x.s.dv.df=cx then(x,42) else
 if 281474976710652<x.ub.kJ∨281474976710652<x.s.cR∨281474976710652<x.b.next then(x,192) else
 if fI x.s.mp<nq x.b x.s.dv.n then(x,71) else iS x
def Vn(G D M:Nat)(g:iV)(s:Pl)(z:fi g.b.t)(C:fQ g.dI)(B:g.dI.n<=100000)(ho:s.dv.ops<=990000000)(w:cS)(h:dZ w G g D M s):
 CP_ 59 #[bW (cu ⟨G,0,cw⟩)] w λe w'=>zm w w' G D M g (gD (g.gt s)) e:=by
 have S:=St.start w (cu D) [G,M,g.P] (iB G g D M s) h.x;have l:=cz λW(X:dZ W G g D M s)=>nP g.P D M s.cR s.base W X.kB.row;have c:=cz λW(X:dZ W G g D M s)=>Lh D s.dv W X.kB.dev;have o:=cz λW(X:dZ W G g D M s)=>wG g.P D M s.cR s.base W X.kB.row;have A:=cz λW(X:dZ W G g D M s)=>mD g.P D M s.cR s.base W X.kB.row;have r:=cz λW(X:dZ W G g D M s)=>count_map M s.mp W X.kB.map;have t:=cz λW(X:dZ W G g D M s)=>Kn G D M g s z W X;have E:=cz λW(X:dZ W G g D M s)=>Fy G D M g s z C B ho W X;have a:=cz (show gD (g.gt s)=if s.dv.df=cx then(g.gt s,42) else if 281474976710652<g.ub.kJ∨281474976710652<s.cR∨281474976710652<g.b.next then(g.gt s,192) else if fI s.mp<nq g.b.t s.dv.n then(g.gt s,71) else iS (g.gt s) from ae);obtain⟨T,x⟩:=dG (gD (g.gt s));obtain⟨st,p⟩:=sV s.cR;obtain⟨u,f⟩:=dG (fI s.mp);obtain⟨v,i⟩:=dG (nq g.b.t s.dv.n);obtain⟨J,j⟩:=dG s.dv.df;rw[x,p.o,f,i,j] at a;rw[x];rw[j] at c;rw[p.o] at o;rw[f] at r;rw[i] at t;clear h x f i j z C B ho;go_enter func59,ntmps59;cases J with
 |true=>rw[c8 ae] at a;go_wp2_with (first|refine zw S.x.at.c0 ?_|refine mG (l.o _ S.x.at) ?_|refine mG (c.o _ S.x.at) ?_);go_ret;rw[a.o];exact aR
 |false=>
  rw[cX kM] at a;by_cases b:281474976710652<g.ub.kJ;case pos=>have F:decide (281474976710652<g.ub.kJ)=cx:=gI b;have K:decide ((281474976710652:Int)<(g.ub.kJ:Int))=cx:=gI cN;rw[c8 (.inl b)] at a;clear b;go_wp2_with (first|(first|refine zw S.x.at.c0 ?_|refine zw S.x.at.c4 ?_)|refine mG (l.o _ S.x.at) ?_|refine mG (c.o _ S.x.at) ?_);go_ret;rw[a.o];exact aR
  have F:decide (281474976710652<g.ub.kJ)=cy:=jC b;have K:decide ((281474976710652:Int)<(g.ub.kJ:Int))=cy:=jC cN;by_cases d:281474976710652<st;case pos=>have d2:decide (281474976710652<st)=cx:=gI d;have L:decide ((281474976710652:Int)<(st:Int))=cx:=gI cN;rw[c8 (.inr (.inl d))] at a;clear b d;go_wp2_with (first|(first|refine zw S.x.at.c0 ?_|refine zw S.x.at.c4 ?_)|refine mG (l.o _ S.x.at) ?_|refine mG (c.o _ S.x.at) ?_|refine mG (o.o _ S.x.at) ?_);go_ret;rw[a.o];exact aR
  have d2:decide (281474976710652<st)=cy:=jC d;have L:decide ((281474976710652:Int)<(st:Int))=cy:=jC cN;by_cases m:281474976710652<g.b.next;case pos=>have H:decide (281474976710652<g.b.next)=cx:=gI m;have N:decide ((281474976710652:Int)<(g.b.next:Int))=cx:=gI cN;rw[c8 (.inr (.inr m))] at a;clear b d m;go_wp2_with (first|(first|refine zw S.x.at.c0 ?_|refine zw S.x.at.c4 ?_|refine zw S.x.at.c1 ?_)|refine mG (l.o _ S.x.at) ?_|refine mG (c.o _ S.x.at) ?_|refine mG (o.o _ S.x.at) ?_);go_ret;rw[a.o];exact aR
  have H:decide (281474976710652<g.b.next)=cy:=jC m;have N:decide ((281474976710652:Int)<(g.b.next:Int))=cy:=jC cN;rw[cX (λh=>h.elim b λh=>h.elim d m)] at a;clear b d m;by_cases n:u<v;case pos=>have I:decide (u<v)=cx:=gI n;rw[c8 n] at a;clear n;go_wp2_with (first|(first|refine zw S.x.at.c0 ?_|refine zw S.x.at.c4 ?_|refine zw S.x.at.c1 ?_)|refine mG (l.o _ S.x.at) ?_|refine mG (c.o _ S.x.at) ?_|refine mG (o.o _ S.x.at) ?_|refine mG (A.o _ S.x.at) ?_|refine mG (r.o _ S.x.at) ?_|refine je S (t.o _ S.x.at) λW S=>?_);go_ret;rw[a.o];exact aR
  have I:decide (u<v)=cy:=jC n;rw[cX n] at a;clear n;go_wp2_with (first|(first|refine zw S.x.at.c0 ?_|refine zw S.x.at.c4 ?_|refine zw S.x.at.c1 ?_)|refine mG (l.o _ S.x.at) ?_|refine mG (c.o _ S.x.at) ?_|refine mG (o.o _ S.x.at) ?_|refine mG (A.o _ S.x.at) ?_|refine mG (r.o _ S.x.at) ?_|refine je S (t.o _ S.x.at) λW S=>?_|(refine(E.o _ S.x.at).mono ?_;rintro e W ⟨O,s2,rfl,R,V,q,y,U⟩;have Q:=S.fr.step U aw (λk Y=>.inl Y);rw[<-a.o] at q;rw[<-a.o]));go_ret;exact⟨O,s2,ae,R,V,q,y,Q⟩
end
section
variable {x:Nat}
theorem St.aeG(S:St w0 d l L O X w)(t:dW)(a:A=cM n f)(ho:gZ t=cx):St w0 d l L O (λB w'=>X B w'/\cL w' w.h.s t n f) (w.alloc (.cells A t)):=by refine(S.cP ((gK _ _).alloc (eN _) _)).wM ?_ ho;grind[cL.alloc]
def Vo(S:St w0 d l L O X w)(c:a.eval (.tmp x)=bV A)(b:A=cM n f)(ho:gZ ty=cx)(h:∀k W,w0.h.s<=k->St w0 d l L O (λB w=>X B w/\cL w k ty n f) W->K (a.put (cu dst) (bW (cu ⟨k,0,cw⟩))) W):Oper.wp P ⟨cu dst,.box ty (.tmp x),t2,p,af,cw⟩ a w K Q:=by unfold Oper.wp execOp;simp only[lx,Instr.box,newVar,newRow,Gj,rN,nX];rw[c];exact h _ _ S.fr.size (S.aeG ty b ho)
def Ns(S:St w0 d l L O X w)(e:a.eval (.tmp x)=bV A)(b:A=cM n f)(ho:gZ ty=cx)(h:∀k W,w0.h.s<=k->St w0 d l L O (λB w=>X B w/\cL w k ty n f) W->wpList P ops Q rest (a.put (cu dst) (bW (cu ⟨k,0,cw⟩))) W):wpList P ops Q (⟨cu dst,.box ty (.tmp x),t2,p,af,cw⟩::rest) a w:=by refine mz ae λK c=>?_;unfold Oper.wp execOp;simp only[lx,Instr.box,newVar,newRow,Gj,rN,nX];rw[e];exact c _ _ (h _ _ S.fr.size (S.aeG ty b ho))
end
section
attribute[local irreducible]wpList Code.wp Calls Oper.wp wpAnyH
theorem DZ(G D M:Nat)(g:iV)(s:Pl)(L:zf g.b.t)(N:g.dI.n<=1000000)(w:cS)(h:dZ w G g D M s):
 CP_ 58 #[bW (cu ⟨G,0,cw⟩)] w λe w'=>∃l y d,e=cj (bW (cu ⟨l,0,cw⟩))/\w.h.s<=l/\w.h.s<=y.P/\w.h.s<=d/\dZ w' l y D d s/\y.gt s=g.gt s/\dS w w':=by obtain⟨A,z⟩:=fU (cM 2 (dO g.b));have Z:=cz z;obtain⟨U,F⟩:=yw (cM 7 (k7 g.ub));have j:=cz h;have O:=cz λW(a:dS w W)=>nP g.P D M s.cR s.base W ((h.cP a).kB.row);have Q:=cz λW(a:dS w W)=>mD g.P D M s.cR s.base W ((h.cP a).kB.row);have R:=cz λW(a:dS w W)=>(adx M s.mp W ((h.cP a).kB.map)).mono λe w'(f:_/\_/\_)=>(show∃k,e=cj (dF k 0)/\w.h.s<=k/\fD w' k s.mp/\dS W w' from⟨_,f.1,a.s,f.2.1,f.2.2⟩);have T:=cz λW(a:dS w W)=>wG g.P D M s.cR s.base W ((h.cP a).kB.row);have V:=cz λW(a:dS w W)=>Rq g.P D M s.cR s.base W ((h.cP a).kB.row);have X:=cz λd W(a:dS w W)=>(zR D d s.cR s.base W).mono λe w'(f:_/\_/\_)=>(show∃k,e=cj (dF k 0)/\w.h.s<=k/\mb w' k D d s.cR s.base/\dS W w' from⟨_,f.1,a.s,f.2.1,f.2.2⟩);have Y:=cz λW(a:dS w W)=>Am g.b A z L W ((h.cP a).wZ);have E:=cz λW(a:dS w W)=>OU g.dI g.hv N W ((h.cP a).dI);unfold iV.hv at E;have S:=qP w;clear h z L N;go_enter func58,ntmps58;go_upto_region 2 with(with_reducible refine jo 7 68 6 (j.o.cP S.b).c0 ?_);refine B5 S dC λW S=>?_;refine dh 0 _ ?_;refine dh 2 _ ?_;refine dh 5 _ ?_;refine dh 7 _ ?_;refine dh 10 _ ?_;refine dh 11 (dF G 0) ?_;refine dh 12 (dF G 1) ?_;refine ij 13 (bV A) ae (yKn (λw h=>by obtain⟨_,_,_,S⟩:=h;exact(j.o.cP S.b).row) (o:=1) (m:=2) ae (dO g.b) cN (λi hi=>by rcases i with(_|_|i)<;>first|rfl|omega) Z.o nU) ?_;refine dh 15 _ ?_;refine dh 16 (dF G 0) ?_;refine dh 17 (dF G 3) ?_;refine ij 18 (bX g.ho g.dI.n g.hc) ae (gW (λw h=>by obtain⟨_,_,_,S⟩:=h;exact(j.o.cP S.b).c3) ae ox) ?_;refine dh 20 _ ?_;refine dh 21 (dF G 0) ?_;refine dh 22 (dF G 4) ?_;refine ij 23 (bV U) ae (yKn (λw h=>by obtain⟨_,_,_,S⟩:=h;exact(j.o.cP S.b).row) (o:=4) (m:=7) ae (k7 g.ub) cN (λi hi=>by unfold wu;grind) F.o Fh) ?_;refine kK 1 λK b=>?_;go_wp2_with fail;refine mG (O.o _ S.b) ?_;refine gy b ?_;refine kK 3 λK b=>?_;go_wp2_with fail;refine mG (Q.o _ S.b) ?_;refine gy b ?_;refine kK 4 λK b=>?_;go_wp2_with fail;refine ah (R.o _ S.b) λd W⟨n,q,a⟩=>?_;have u:=cz n;replace S:=(S.cP a).wM q ae;clear q a n;refine gy b ?_;refine kK 6 λK b=>?_;go_wp2_with fail;refine mG (T.o _ S.b) ?_;refine gy b ?_;refine kK 8 λK b=>?_;go_wp2_with fail;refine mG (V.o _ S.b) ?_;refine gy b ?_;refine kK 9 λK b=>?_;go_wp2_with fail;refine ah (X.o d _ S.b) λH W⟨p,q,a⟩=>?_;have v:=cz p;replace S:=(S.cP a).wM q ae;clear q a p;refine gy b ?_;refine kK 14 λK b=>?_;go_wp2_with fail;refine ah (Y.o _ S.b) λB W⟨⟨c,I,hc,ho⟩,a⟩=>?_;have HB:=cz I;have HC:=cz hc;have HF:=cz (S.fresh ho);replace S:=S.kq a ho;clear a I hc;refine gy b ?_;refine kK 19 λK b=>?_;go_wp2_with fail;refine ah (E.o _ S.b) λr W⟨ho,a⟩=>?_;have t:=cz (dx ho);replace S:=S.iw a ho ae ae;clear a;obtain⟨J,hc,rfl⟩:=t.o;refine gy b ?_;refine ij 24 (bV (cM 11 (wu ⟨H,c,g.dI,J,hc,g.ub⟩))) ae (yU ae (by rw[HB.o,F.o];kernel_rfl)) ?_;refine kK 25 λK b=>?_;refine Vo S ae ae ae λl W C S=>?_;refine gy b ?_;refine dh 26 _ ?_;refine qG ?_;go_wp2;go_ret;exact⟨l,⟨H,c,g.dI,J,hc,g.ub⟩,d,ae,C,v.o,u.o,⟨S.x.2,⟨S.x.1.1.2,(j.o.cP S.b).kB.dev,S.x.1.1.1.2,j.o.kB.ok⟩,⟨S.q1,λx hx=>(S.x.1.2 x hx).1⟩,S.q0⟩,by unfold iV.gt;rw[<-HC.o],S.b⟩
end