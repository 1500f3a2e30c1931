/- Part 9. No conditions. -/
import Derived.Test.YtklligbjoplbgaaGreatNah
set_option linter.all false
namespace Go.Proofs.YtklligbjoplbgaaGreat
set_option maxRecDepth 100000
set_option maxHeartbeats 64000000
open Go.RowKit Lib List Nat _root_.Go.Proofs.Tryz Go.Shelf
variable {af:Array Edge}{ops:Array Oper}{Q:Exit->Act->cB->Prop}{c:Int}{B dO:cD}{X:cD->cB->Prop}{bs:List Int}{O:List O4}{rest:List Oper}{M l ps:List cy}{L:List R4}{xs:List cI}{E b base cap i j k m n want x y z:Nat}{f:Nat->cI}{a' ao:Option Addr}{d o:Option Nat}{P:kS}{s s1 s2:Pl}{a:Pl×(List cy×Int)}{q:cy}{p:String}{e t t2:dC}{α β:Type}{v:cI}{w w' w0:cB}
section
attribute[local irreducible]wpList Code.wp Calls Oper.wp wpAnyH
def Tl(P D M:Nat)(s:Pl)(ho:s.dv.ops<=999999000)(q:cy)(hq:cY q)(i:Int)(v:cI)(b:cD)(w:cB)(h:ej w P D M s)(hv:kZ w 5 v b):
 CP_ 80 #[.pointer (some ⟨P,0,none⟩),lT q,.int .i64 i,v] w λe w'=>∃r,e=.returned (.tuple #[lT (kh s q i b).2.1,r,.int .i64 (kh s q i b).2.2.2])/\gg w' w.heap.size r (kh s q i b).2.2.1/\ej w' P D M (kh s q i b).1/\Fr (some D) [M] w w':=by
 obtain⟨A,hA⟩:=eW (ct 3 (c7 q));have a1:=cP hA;have S:=St.start w (some D) [M] (dw P D M s) h;have c9:=hv.2;obtain⟨ba,bc,rfl,-,-⟩:=hv.form;obtain⟨bl,a2⟩:=q8 b.length;rw[a2.o] at hv|-;have HV:Hid (∀W,Fr (some D) [M] w W->kZ W 5 (.slice ba bl bc) b):=cq λW f=>hv.fr f (.inr rfl) rfl;have C1:=cq λW=>EL i W;have h0:=And.intro h.dev.ok h.ok.1;obtain⟨T,a⟩:=q8 (kh s q i b);rw[a.o,a1];have HA:=cq hA;clear hA h hv;unfold kh at a;go_enter func80,ntmps80;cases L:l7 i with
 |false=>rw[L] at C1 a;rw[cL rfl] at a;obtain rfl:=a.o;clear L;go_wp2_with first|refine lB (C1.o _) ?_|(refine lC ?_;exact⟨_,by rw[cP (q:=q) rfl];rfl,gg.nil _ _,S.x,S.fr⟩)|refine eR ?_|refine ey λW S=>?_
 |true=>
  rw[L] at C1 a;rw[cM jR] at a;obtain⟨k,rfl⟩:∃k:Nat,i=(k:Int):=⟨i.toNat,by unfold l7 at L;rw[pG] at L;omega⟩;have hk:k<64:=by unfold l7 at L;rw[pG] at L;omega
  rw[a2.o] at a;clear L;by_cases g1:128<(bl:Int);case pos=>rw[cL cw] at a;obtain rfl:=a.o;go_wp2_with first|refine lB (C1.o _) ?_|(refine lC ?_;exact⟨_,by rw[cP (q:=q) rfl];rfl,gg.nil _ _,S.x,S.fr⟩)|refine eR ?_|refine ey λW S=>?_
  rw[cM cw,sO] at a;obtain⟨l,b2⟩:=c8 (k/8);obtain⟨p,b3⟩:=c8 (k%8);have d2:l<8:=cw;have d3:p<8:=cw;have d7:(k:Int)/8=(l:Int):=cw;have d1:(k:Int)%8=(p:Int):=cw;rw[b2,b3] at a;have C2:=cq λW(X:ej W P D M s)=>AU P D M s q hq k hk W X;have O:=s6 s q k;have G:=qv h0.1 q k;have I:=s7 s q k;obtain⟨r,hr⟩:=c8 (eB s q k);rw[hr] at C2 a O G I;obtain⟨s1,y,c1⟩:=r;simp only at C2 a O G I;rw[a1] at C2;have a5:=cq G;have a8:=cq (show gU s1.cA by rw[I];exact h0.2);have a6:Hid (∀W,CP_ 143 #[.agg (ct 51 (mN y)),lT q,.int .i64 k] W λe w'=>∃v,e=.returned v/\gg w' W.heap.size v (kH y q k)/\dz W w'):=cq λW=>F5 y q k hk _ rfl W;clear hr G I b2 b3;go_upto_region 6 with(first|refine xN S rfl HA.o rfl λWB S=>?_|refine lB (C1.o _) ?_|(refine(C2.o _ S.x).mono ?_;rintro e WW ⟨N,rfl,hN,hp,hf⟩;have HN:=cq hN;replace S:=S.call hf (λD e=>e) dU (dw P D M s1) (λB h=>hp);clear hN)|refine eR ?_|refine ey λW S=>?_);rw[<-HN.o,a1] at a6;by_cases x:c1=0;case neg=>have g9:(c1 !=0)=true:=eO.2 x;rw[cL x] at a;obtain rfl:=a.o;clear x;go_wp2_with first|(refine lC ?_;exact⟨_,by rw[cP (q:=q) rfl];rfl,gg.nil _ _,S.x,S.fr⟩)|refine eR ?_|refine ey λW S=>?_
  subst x;rw[cM (λh=>h rfl)] at a;have C5:=cq λW(X:ej W P D M s1)=>nN P D M s1.cA s1.base W X.row;have C6:=cq λW(X:ej W P D M s1)=>count_map M s1.mp W X.map;obtain⟨cn,b1⟩:=c8 (eF s1.mp);rw[b1] at C6 a;clear b1;by_cases g3:cn<3;case pos=>rw[cL g3] at a;obtain rfl:=a.o;go_wp2_with first|refine lB (C5.o _ S.x) ?_|refine lB (C6.o _ S.x) ?_|(refine lC ?_;exact⟨_,by rw[cP (q:=q) rfl];rfl,gg.nil _ _,S.x,S.fr⟩)|refine eR ?_|refine ey λW S=>?_
  rw[cM g3] at a;have C7:=cq λW(X:ej W P D M s1)hv=>I' P D M s1 cw 5 jR (.slice ba bl bc) b W X hv;have F:=IT a8.o b c9;have b4:=Hh s1 b;have H:=BS s1 b;obtain⟨u,Q⟩:=c8 (rJ s1 b);rw[Q] at C7 a F b4 H;obtain⟨s2,R,c2⟩:=u;simp only at C7 a F b4 H;obtain⟨PB,Z⟩:=eW (ct 3 (c7 R));rw[cP Z] at C7;have b8:=cq Z;have b7:=cq F;have a7:=cq (show gU s2.cA by rw[H];exact a8.o);clear Q Z F H;go_upto_region 11 with(first|refine lB (C5.o _ S.x) ?_|refine lB (C6.o _ S.x) ?_|(refine(C7.o _ S.x (HV.o _ S.fr)).mono ?_;rintro e W ⟨rfl,hp,hf⟩;replace S:=S.call hf (λD e=>e) dU (dw P D M s2) (λB h=>hp))|refine ey λW S=>?_);by_cases z:c2=0;case neg=>have g9:(c2 !=0)=true:=eO.2 z;rw[cL z] at a;obtain rfl:=a.o;clear z;go_wp2_with first|(refine lC ?_;exact⟨_,by rw[cP (q:=q) rfl];rfl,gg.nil _ _,S.x,S.fr⟩)|refine eR ?_|refine ey λW S=>?_
  subst z;rw[cM (λh=>h rfl)] at a;obtain⟨N2,b6⟩:=xm (ct 24 (dX y.lJ));obtain⟨N1,b5⟩:=xm (ct 24 (dX y.first));obtain⟨M2,Y⟩:=eW (ct 24 (dX (ig y.lJ p R)));have d5:=cq Y;have C8:=cq λW(X:ej W P D M s2)=>tA P D M s2 cw (ig y.lJ p R) (λi _=>uz a5.o.2.1 b7.o i) M2 Y W X;have c:=mW (s:=s2) (by exact a7.o) (ig y.lJ p R);have j:=mE s2 (ig y.lJ p R);have d:=mX s2 (ig y.lJ p R);obtain⟨u,Q⟩:=c8 (eH s2 (ig y.lJ p R));rw[Q] at C8 a j d c;obtain⟨J,U,c3⟩:=u;simp only at C8 a j d c;obtain⟨PC,g⟩:=eW (ct 3 (c7 U));rw[cP g] at C8;have b9:=cq g;have c6:=cq c;have c5:=cq (show gU J.cA by rw[d];exact a7.o);have a3:=cq (show J.dv.ops<=1000000000-0 by omega);clear Y Q g c d;go_upto_region 16 with(first|refine oM_ S 1 rfl (o:=24) (m:=24) (dX y.lJ) (I9 y) b6.o ?_|refine ixN d3 rfl (by first|exact fK (Value.int .i64) d1) ?_|refine IU S 0 rfl (o:=p*3) (m:=3) (show p*3+3<=24 by omega) rfl rfl b8.o eN (df _) (λw' hr e=>F4 hr p R e) λW S=>?_|(refine(C8.o _ S.x).mono ?_;rintro e W ⟨rfl,hp,hf⟩;replace S:=S.call hf (λD e=>e) dU (dw P D M J) (λB h=>hp))|refine eR ?_|refine ey λW S=>?_);by_cases C:c3=0;case neg=>have g9:(c3 !=0)=true:=eO.2 C;rw[cL C] at a;obtain rfl:=a.o;clear C;go_wp2_with first|(refine lC ?_;exact⟨_,by rw[cP (q:=q) rfl];rfl,gg.nil _ _,S.x,S.fr⟩)|refine eR ?_|refine ey λW S=>?_
  subst C;rw[cM (λh=>h rfl)] at a;obtain⟨M1,V⟩:=eW (ct 24 (dX (ig y.first l U)));have d4:=cq V;have C9:=cq λW(X:ej W P D M J)=>tA P D M J (by have:=a3.o;omega) (ig y.first l U) (λi _=>uz a5.o.1 c6.o i) M1 V W X;have c:=mW (s:=J) (by exact c5.o) (ig y.first l U);have j:=mE J (ig y.first l U);have d:=mX J (ig y.first l U);obtain⟨u,Q⟩:=c8 (eH J (ig y.first l U));rw[Q] at C9 a j d c;obtain⟨s4,p4,c4⟩:=u;simp only at C9 a j d c;obtain⟨PE,g⟩:=eW (ct 3 (c7 p4));rw[cP g] at C9;have a4:=cq g;have d6:=cq c;clear V Q g c d;go_upto_region 21 with(first|refine oM_ S 3 rfl (o:=0) (m:=24) (dX y.first) (Lr y) b5.o ?_|refine ixN d2 rfl (by first|rfl) ?_|refine IU S 0 rfl (o:=l*3) (m:=3) (show l*3+3<=24 by omega) rfl rfl b9.o eN (df _) (λw' hr e=>F4 hr l U e) λW S=>?_|(refine(C9.o _ S.x).mono ?_;rintro e W ⟨rfl,hp,hf⟩;replace S:=S.call hf (λD e=>e) dU (dw P D M s4) (λB h=>hp))|refine eR ?_|refine ey λW S=>?_);by_cases E:c4=0;case neg=>have g9:(c4 !=0)=true:=eO.2 E;rw[cL E] at a;obtain rfl:=a.o;clear E;go_wp2_with first|(refine lC ?_;exact⟨_,by rw[cP (q:=q) rfl];rfl,gg.nil _ _,S.x,S.fr⟩)|refine eR ?_|refine ey λW S=>?_
  subst E;rw[cM (λh=>h rfl)] at a;obtain rfl:=a.o;go_upto_region 23 with(fail);try simp only[z',Eh] at S
  obtain⟨TC,a9⟩:=S.nm;rw[a9] at S|-;clear a9;refine dN S cX [⟨TC,106,3,c7 p4⟩,⟨WW.heap.size,193,51,mN y⟩,⟨w.heap.size,106,3,c7 q⟩] Be λW S=>?_;refine fW 0 (.agg PE) rfl (pZ (λw h=>h.row 0 rfl) rfl a4.o eN) ?_;refine fW 1 (.agg N) rfl (pZ (b:=WW.heap.size) (t:=193) (n:=51) (f:=mN y) (λw h=>h.row 1 rfl) rfl HN.o Tj) ?_;refine fW 2 (.agg A) rfl (pZ (b:=w.heap.size) (t:=106) (n:=3) (f:=c7 q) (λw h=>h.row 2 rfl) rfl HA.o eN) ?_;refine cJ 3 _ ?_;refine jQ 4 λK hK=>?_;go_wp2_with fail;refine(a6.o _).mono ?_;rintro e W ⟨v,rfl,ho,hb⟩;replace S:=S.gm hb ho rfl rfl;clear ho;refine fC hK ?_;refine jQ 5 λK hK=>?_;refine ju S 6 rfl rfl rfl a4.o eN (df _) λW S=>?_;refine fC hK ?_;refine cJ 6 _ ?_;refine cJ 7 _ ?_;refine pz ?_;go_wp2_with (refine lC ?_;exact⟨_,by rw[cP (q:=p4) rfl];rfl,S.o0,S.x,S.fr⟩)
def Qt(P D M:Nat)(s:Pl)(ho:s.dv.ops<=999999000)(q:cy)(hq:cY q)(i:Int)(w:cB)(h:ej w P D M s):
 CP_ 95 #[.pointer (some ⟨P,0,none⟩),lT q,.int .i64 i] w λe w'=>∃r,e=.returned (.tuple #[lT (gC s q i).2.1,r,.int .i64 (gC s q i).2.2.2])/\gg w' w.heap.size r (gC s q i).2.2.1/\ej w' P D M (gC s q i).1/\Fr (some D) [M] w w':=by
 obtain⟨A,hA⟩:=eW (ct 3 (c7 q));have c4:=cP hA;have S:=St.start w (some D) [M] (dw P D M s) h;have C1:=cq λW=>EL i W;obtain⟨T,HT⟩:=q8 (gC s q i);rw[HT.o,c4];have HA:=cq hA;have h0:=And.intro h.dev.ok h.ok.1;clear hA h;go_enter func95,ntmps95;cases J:l7 i with
 |false=>
  rw[J] at C1;obtain rfl:(s,(q,[],(111:Int)))=T:=by rw[<-HT.o];unfold gC;rw[cL J]
  clear J;go_wp2_with first|refine lB (C1.o _) ?_|(refine lC ?_;exact⟨_,by rw[cP (q:=q) rfl];rfl,gg.nil _ _,S.x,S.fr⟩)|refine eR ?_|refine ey λW S=>?_
 |true=>
  rw[J] at C1;obtain⟨k,rfl⟩:∃k:Nat,i=(k:Int):=⟨i.toNat,by unfold l7 at J;rw[pG] at J;omega⟩;have hk:k<64:=by unfold l7 at J;rw[pG] at J;omega
  have l:=cq (show(if(eB s q k).2.2≠0 then((eB s q k).1,(q,[],(eB s q k).2.2)) else if(eB s q k).2.1.block=cH then((eB s q k).1,(q,[],0)) else mY (eB s q k).1 (eB s q k).2.1 q k)=T by
   rw[<-HT.o];unfold gC;rw[cM (show¬l7 (k:Int)=false by rw[J];decide)];rfl)
  have C2:=cq λW(X:ej W P D M s)=>AU P D M s q hq k hk W X;have G:=s6 s q k;have R:=qv h0.1 q k;have U:=s7 s q k;clear J HT;obtain⟨r,Y⟩:=c8 (eB s q k);rw[Y] at C2 l G R U;obtain⟨s1,y,c1⟩:=r;simp only at C2 l G R U;have a6:=cq R;have a7:=cq (show gU s1.cA by rw[U];exact h0.2);clear R U;rw[c4] at C2;clear Y
  go_upto_region 4 with(first|refine xN S rfl HA.o rfl λWB S=>?_|refine lB (C1.o _) ?_|(refine(C2.o _ S.x).mono ?_;rintro e I ⟨N,rfl,hN,hp,hf⟩;have HN:=cq hN;replace S:=S.call hf (λD e=>e) dU (dw P D M s1) (λB h=>hp);clear hN)|refine eR ?_|refine ey λW S=>?_)
  by_cases g1:c1=0
  case neg=>
   have g2:(c1 !=0)=true:=eO.2 g1;obtain rfl:(s1,(q,[],c1))=T:=by rw[<-l.o,cL g1]
   clear g1
   go_wp2_with first|(refine lC ?_;exact⟨_,by rw[cP (q:=q) rfl];rfl,gg.nil _ _,S.x,S.fr⟩)|refine eR ?_|refine ey λW S=>?_
  subst g1;obtain⟨BA,b5⟩:=eW (ct 3 (c7 y.block));have c9:=cq b5;have e2:=cP b5;obtain⟨zb,c5⟩:=c8 (decide (y.block=cH));have e7:=Ev y.block cH zb c5;obtain⟨ZH,Q⟩:=eW (ct 3 (c7 cH));have e9:=cq Q;have e3:=cP Q;rw[e2,e3] at e7;have c6:=cq (show prog.built 106 []=some ZH by rw[Q,<-gQ];exact Lt);have b4:=cq c5;clear b5 e2 c5 e3 Q;cases zb with
  |true=>
   obtain rfl:(s1,(q,[],(0:Int)))=T:=by rw[<-l.o,cM (λh=>h rfl),cL (lr b4.o)]
   go_wp2_with first|refine oM_ S 0 rfl (o:=48) (m:=3) (c7 y.block) (EW y) c9.o ?_|(refine lh cX ?_;refine kC (cells:=ZH) rfl c6.o ?_)|(refine lC ?_;exact⟨_,by rw[cP (q:=q) rfl];rfl,gg.nil _ _,S.x,S.fr⟩)|refine eR ?_|refine ey λW S=>?_
  |false=>
   have a9:=cq (show mY s1 y q k=T by rw[<-l.o,cM (λh=>h rfl),cM (xg b4.o)]);clear l b4
   go_upto_region 6 with(first|refine oM_ S 0 rfl (o:=48) (m:=3) (c7 y.block) (EW y) c9.o ?_|(refine lh cX ?_;refine kC (cells:=ZH) rfl c6.o ?_))
   obtain⟨N1,a3⟩:=xm (ct 24 (dX y.first));obtain⟨N2,a4⟩:=xm (ct 24 (dX y.lJ));obtain⟨E,b8⟩:=c8 (k/8);obtain⟨i2,b9⟩:=c8 (k%8);have e1:E<8:=cw;have e8:i2<8:=cw;have f2:(k:Int)/8=(E:Int):=cw;have e6:(k:Int)%8=(i2:Int):=cw;obtain⟨F,H⟩:=xm (ig y.first E cH);obtain⟨n2,L⟩:=xm (ig y.lJ i2 cH);obtain⟨M1,b6⟩:=eW (ct 24 (dX F));obtain⟨M2,b7⟩:=eW (ct 24 (dX n2));have a1:=cq b6;have e4:=cq b7;have t0:=abJ (s:=s1) (y:=y) (cz:=q) (i:=k);have t1:=abK (s:=s1) (y:=y) (cz:=q) (i:=k);have t2:=abL (s:=s1) (y:=y) (cz:=q) (i:=k);rw[b8,b9,<-H.o,<-L.o,a9.o] at t0 t1;rw[b8,b9,<-H.o,<-L.o,a9.o] at t2;obtain⟨b1,d7⟩:=c8 (qw F);obtain⟨b2,d8⟩:=c8 (qw n2);have C3:=cq λW=>DL F M1 b6 W;have C4:=cq λW=>DL n2 M2 b7 W;rw[d7] at C3 t0 t1;rw[d8] at C4 t0 t1 t2;have C5:=cq λW(X:ej W P D M s1)=>nN P D M s1.cA s1.base W X.row;have C6:=cq λW(X:ej W P D M s1)=>count_map M s1.mp W X.map;obtain⟨cn,d9⟩:=c8 (eF s1.mp);rw[d9] at C6 t1 t2;have a8:=cq t0;have l:=cq t1;have b3:=cq t2;have a5:=cq G;clear b8 b9 b6 b7 d7 d8 d9 a9 t0 t1 t2 G;refine dN S cX [⟨I.heap.size,193,51,mN y⟩] Be λW S=>?_;refine cJ 0 (cZ I.heap.size 0) ?_;refine fW 1 (.agg N1) rfl (yKn (λw h=>h.row 0 rfl) (o:=0) (m:=24) rfl (dX y.first) pR (Lr y) a3.o Bd) ?_;refine cJ 2 (cZ I.heap.size 24) ?_;refine fW 3 (.agg N2) rfl (yKn (λw h=>h.row 0 rfl) (o:=24) (m:=24) rfl (dX y.lJ) pR (I9 y) a4.o Bd) ?_
   repeat' first|refine Rp ?_|refine zX 4 5 (λK p=>?_) λK p=>?_|refine oJ 5 λK p=>?_|refine oJ 4 λK p=>?_|refine oJ 6 λK p=>?_|refine oJ 7 λK p=>?_|(refine fu (dst:=11) S zeroValue191 CZ rfl λE1 W S=>?_;refine fC p ?_)|(refine fu (dst:=12) S zeroValue191 CZ rfl λE2 W S=>?_;refine fC p ?_)|((first|(refine ju S 0 rfl rfl rfl a3.o Bd (mM _) λW S=>?_)|refine ju S 1 rfl rfl rfl a3.o Bd (mM _) λW S=>?_);refine fC p ?_)|((first|(refine ju S 0 rfl rfl rfl a4.o Bd (mM _) λW S=>?_)|refine ju S 1 rfl rfl rfl a4.o Bd (mM _) λW S=>?_);refine fC p ?_)
   all_goals(
    refine cq ?_
    first|(replace S:St w (some D) [M] (⟨E2,191,24,dX y.lJ⟩:: ⟨E1,191,24,dX y.first⟩:: ⟨I.heap.size,193,51,mN y⟩::_) [] _ W:=S)|(replace S:St w (some D) [M] (⟨E2,191,24,dX y.lJ⟩:: ⟨E1,191,24,dX y.first⟩:: ⟨I.heap.size,193,51,mN y⟩::_) [] _ W:=S.acs)
    go_upto_region 10 with(first|refine ixN e8 rfl (by first|exact fK (Value.int .i64) e6) ?_|refine ixN e1 rfl (by first|rfl) ?_|refine IU S 0 rfl (o:=i2*3) (m:=3) (show i2*3+3<=24 by omega) rfl rfl gQ eN (df _) (λw' Y e=>F4 Y i2 cH e) λW S=>?_|refine IU S 1 rfl (o:=E*3) (m:=3) (show E*3+3<=24 by omega) rfl rfl gQ eN (df _) (λw' Y e=>F4 Y E cH e) λW S=>?_|refine eR ?_)
    rw[<-H.o,<-L.o] at S;have C9:=cq λW=>F5 y q k hk N HN.o W;rw[c4] at C9;cases b2 with
    |false=>
     have a:=cq (b3.o rfl);clear a8 l b3;by_cases g3:cn<2
     case pos=>
      rw[cL g3] at a;obtain rfl:=a.o
      go_wp2_with first|refine je S (C4.o _) λW S=>?_|refine lB (C5.o _ S.x) ?_|refine lB (C6.o _ S.x) ?_|(refine lC ?_;exact⟨_,by rw[cP (q:=q) rfl];rfl,gg.nil _ _,S.x,S.fr⟩)|refine eR ?_|refine ey λW S=>?_
     rw[cM g3] at a;have C:=cq λW(X:ej W P D M s1)=>tA P D M s1 (by have:=a5.o;omega) n2 (λi _=>by rw[L.o];exact uz a6.o.2.1 dA i) M2 e4.o W X;have c:=mW (s:=s1) (by exact a7.o) n2;have d:=mE s1 n2;have g:=mX s1 n2;obtain⟨u,Z⟩:=c8 (eH s1 n2);rw[Z] at C a d g c;obtain⟨s2,p2,c2⟩:=u;simp only at C a d g c;obtain⟨f1,j⟩:=eW (ct 3 (c7 p2));rw[cP j] at C;have d1:=cq j;have d4:=cq c;have d3:=cq d;have d6:=cq g;clear Z j c d g
     go_upto_region 18 with(first|refine je S (C4.o _) λW S=>?_|refine lB (C5.o _ S.x) ?_|refine lB (C6.o _ S.x) ?_|(refine(C.o _ S.x).mono ?_;rintro e W ⟨rfl,hp,hf⟩;replace S:=S.call hf (λD e=>e) dU (dw P D M s2) (λB h=>hp))|refine ixN e1 rfl (by first|rfl) ?_|refine IU S 1 rfl (o:=E*3) (m:=3) (show E*3+3<=24 by omega) rfl rfl d1.o eN (df _) (λw' Y e=>F4 Y E p2 e) λW S=>?_|refine eR ?_)
     clear C;by_cases g5:c2=0
     case neg=>
      have g6:(c2 !=0)=true:=eO.2 g5;rw[cL g5] at a;obtain rfl:=a.o;clear g5
      go_wp2_with first|(refine lC ?_;exact⟨_,by rw[cP (q:=q) rfl];rfl,gg.nil _ _,S.x,S.fr⟩)|refine eR ?_|refine ey λW S=>?_
     subst g5;rw[cM (λh=>h rfl)] at a;obtain⟨M3,a2⟩:=xm (ct 24 (dX (ig F E p2)));have C:=cq λW(X:ej W P D M s2)=>tA P D M s2 (by have:=a5.o;have:=d3.o;omega) (ig F E p2) (λi _=>by rw[H.o];exact uz (uz a6.o.1 dA) d4.o i) M3 a2.o W X;have c:=mW (s:=s2) (by have:=d6.o;rw[this];exact a7.o) (ig F E p2);have d:=mE s2 (ig F E p2);have g:=mX s2 (ig F E p2);obtain⟨u,Z⟩:=c8 (eH s2 (ig F E p2));rw[Z] at C a d g c;obtain⟨s3,V,c3⟩:=u;simp only at C a d g c;obtain⟨e5,j⟩:=eW (ct 3 (c7 V));rw[cP j] at C;have d2:=cq j;have d5:=cq c;clear Z j c d g
     go_upto_region 23 with(first|(refine(C.o _ S.x).mono ?_;rintro e W ⟨rfl,hp,hf⟩;replace S:=S.call hf (λD e=>e) dU (dw P D M s3) (λB h=>hp))|refine eR ?_|refine ey λW S=>?_)
     by_cases O:c3=0
     case neg=>
      have g8:(c3 !=0)=true:=eO.2 O;rw[cL O] at a;obtain rfl:=a.o;clear O
      go_wp2_with first|(refine lC ?_;exact⟨_,by rw[cP (q:=q) rfl];rfl,gg.nil _ _,S.x,S.fr⟩)|refine eR ?_|refine ey λW S=>?_
     subst O;rw[cM (λh=>h rfl)] at a;obtain rfl:=a.o;obtain⟨PX,x⟩:=xm (ct 3 (c7 V))
     go_upto_region 25 with(fail)
     try simp only[z',Eh] at S
     obtain⟨TC,z⟩:=S.nm;rw[z] at S|-;clear z;refine dN S cX [⟨TC,106,3,c7 V⟩,⟨I.heap.size,193,51,mN y⟩,⟨w.heap.size,106,3,c7 q⟩] Be λW S=>?_;refine fW 0 (.agg PX) rfl (pZ (λw h=>h.row 0 rfl) rfl x.o eN) ?_;refine fW 1 (.agg N) rfl (pZ (b:=I.heap.size) (t:=193) (n:=51) (f:=mN y) (λw h=>h.row 1 rfl) rfl HN.o Tj) ?_;refine fW 2 (.agg A) rfl (pZ (b:=w.heap.size) (t:=106) (n:=3) (f:=c7 q) (λw h=>h.row 2 rfl) rfl HA.o eN) ?_;refine cJ 3 _ ?_;refine jQ 4 λK p=>?_
     go_wp2_with fail
     refine(C9.o _).mono ?_;rintro e W ⟨v,rfl,ho,hb⟩;replace S:=S.gm hb ho rfl rfl;clear ho;refine fC p ?_;refine jQ 5 λK p=>?_;refine ju S 4 rfl rfl rfl x.o eN (df _) λW S=>?_;refine fC p ?_;refine cJ 6 _ ?_;refine cJ 7 _ ?_;refine pz ?_
     go_wp2_with (refine lC ?_;exact⟨_,by rw[cP (q:=V) rfl];rfl,S.o0,S.x,S.fr⟩)
    |true=>
     clear b3;cases b1 with
     |false=>
      have a:=cq (l.o rfl rfl);clear a8 l;by_cases g3:cn<1
      case pos=>
       rw[cL g3] at a;obtain rfl:=a.o
       go_wp2_with first|(first|refine jj 52 191 11 S 1 a1.o ?_)|refine je S (C4.o _) λW S=>?_|refine je S (C3.o _) λW S=>?_|refine lB (C5.o _ S.x) ?_|refine lB (C6.o _ S.x) ?_|(refine lC ?_;exact⟨_,by rw[cP (q:=q) rfl];rfl,gg.nil _ _,S.x,S.fr⟩)|refine eR ?_|refine ey λW S=>?_
      rw[cM g3] at a
      go_upto_region 20 with(first|(first|refine jj 52 191 11 S 1 a1.o ?_)|refine je S (C4.o _) λW S=>?_|refine je S (C3.o _) λW S=>?_|refine lB (C5.o _ S.x) ?_|refine lB (C6.o _ S.x) ?_|refine eR ?_)
      obtain⟨M3,a2⟩:=xm (ct 24 (dX (F)));have C:=cq λW(X:ej W P D M s1)=>tA P D M s1 (by have:=a5.o;omega) (F) (λi _=>by rw[H.o];exact uz a6.o.1 dA i) M3 a2.o W X;have c:=mW (s:=s1) (by exact a7.o) (F);have d:=mE s1 (F);have g:=mX s1 (F);obtain⟨u,Z⟩:=c8 (eH s1 (F));rw[Z] at C a d g c;obtain⟨s3,V,c3⟩:=u;simp only at C a d g c;obtain⟨e5,j⟩:=eW (ct 3 (c7 V));rw[cP j] at C;have d2:=cq j;have d5:=cq c;clear Z j c d g
      go_upto_region 23 with(first|(refine(C.o _ S.x).mono ?_;rintro e W ⟨rfl,hp,hf⟩;replace S:=S.call hf (λD e=>e) dU (dw P D M s3) (λB h=>hp))|refine eR ?_|refine ey λW S=>?_)
      by_cases O:c3=0
      case neg=>
       have g8:(c3 !=0)=true:=eO.2 O;rw[cL O] at a;obtain rfl:=a.o;clear O
       go_wp2_with first|(refine lC ?_;exact⟨_,by rw[cP (q:=q) rfl];rfl,gg.nil _ _,S.x,S.fr⟩)|refine eR ?_|refine ey λW S=>?_
      subst O;rw[cM (λh=>h rfl)] at a;obtain rfl:=a.o;obtain⟨PX,x⟩:=xm (ct 3 (c7 V))
      go_upto_region 25 with(fail)
      try simp only[z',Eh] at S
      obtain⟨TC,z⟩:=S.nm;rw[z] at S|-;clear z;refine dN S cX [⟨TC,106,3,c7 V⟩,⟨I.heap.size,193,51,mN y⟩,⟨w.heap.size,106,3,c7 q⟩] Be λW S=>?_;refine fW 0 (.agg PX) rfl (pZ (λw h=>h.row 0 rfl) rfl x.o eN) ?_;refine fW 1 (.agg N) rfl (pZ (b:=I.heap.size) (t:=193) (n:=51) (f:=mN y) (λw h=>h.row 1 rfl) rfl HN.o Tj) ?_;refine fW 2 (.agg A) rfl (pZ (b:=w.heap.size) (t:=106) (n:=3) (f:=c7 q) (λw h=>h.row 2 rfl) rfl HA.o eN) ?_;refine cJ 3 _ ?_;refine jQ 4 λK p=>?_
      go_wp2_with fail
      refine(C9.o _).mono ?_;rintro e W ⟨v,rfl,ho,hb⟩;replace S:=S.gm hb ho rfl rfl;clear ho;refine fC p ?_;refine jQ 5 λK p=>?_;refine ju S 4 rfl rfl rfl x.o eN (df _) λW S=>?_;refine fC p ?_;refine cJ 6 _ ?_;refine cJ 7 _ ?_;refine pz ?_
      go_wp2_with (refine lC ?_;exact⟨_,by rw[cP (q:=V) rfl];rfl,S.o0,S.x,S.fr⟩)
     |true=>
      have a:=cq (a8.o rfl rfl);obtain rfl:=a.o;have g3:¬(cn:Int)<0:=cw
      go_upto_region 20 with(first|(first|refine jj 52 191 11 S 1 a1.o ?_)|refine je S (C4.o _) λW S=>?_|refine je S (C3.o _) λW S=>?_|refine lB (C5.o _ S.x) ?_|refine lB (C6.o _ S.x) ?_|refine eR ?_)
      obtain⟨PX,x⟩:=xm (ct 3 (c7 cH))
      go_upto_region 25 with(refine ey λW S=>?_)
      try simp only[z',Eh] at S
      obtain⟨TC,z⟩:=S.nm;rw[z] at S|-;clear z;refine dN S cX [⟨TC,106,3,c7 cH⟩,⟨I.heap.size,193,51,mN y⟩,⟨w.heap.size,106,3,c7 q⟩] Be λW S=>?_;refine fW 0 (.agg PX) rfl (pZ (λw h=>h.row 0 rfl) rfl x.o eN) ?_;refine fW 1 (.agg N) rfl (pZ (b:=I.heap.size) (t:=193) (n:=51) (f:=mN y) (λw h=>h.row 1 rfl) rfl HN.o Tj) ?_;refine fW 2 (.agg A) rfl (pZ (b:=w.heap.size) (t:=106) (n:=3) (f:=c7 q) (λw h=>h.row 2 rfl) rfl HA.o eN) ?_;refine cJ 3 _ ?_;refine jQ 4 λK p=>?_
      go_wp2_with fail
      refine(C9.o _).mono ?_;rintro e W ⟨v,rfl,ho,hb⟩;replace S:=S.gm hb ho rfl rfl;clear ho;refine fC p ?_;refine jQ 5 λK p=>?_;refine ju S 4 rfl rfl rfl x.o eN (df _) λW S=>?_;refine fC p ?_;refine cJ 6 _ ?_;refine cJ 7 _ ?_;refine pz ?_
      go_wp2_with (refine lC ?_;exact⟨_,by rw[cP (q:=cH) rfl];rfl,S.o0,S.x,S.fr⟩)
    )
def Ja(P D d:Nat)(s:Pl)(q:cy)(hq:cY q)(st:Nat)(w:World)(h:ej w P D d s):
 CP_ 89 #[.pointer (some ⟨P,0,none⟩),lT q,.int .u64 (st:Nat)] w λe w'=>∃r,e=.returned (.tuple #[r,.int .i64 (fA s q st).2.2])/\gg w' w.heap.size r (fA s q st).2.1/\ej w' P D d (fA s q st).1/\Fr (some D) [] w w':=by
 obtain⟨A,hA⟩:=eW (ct 3 (c7 q));rw[cP hA];have HA:=cq hA;clear hA;have HQ:=cq hq;clear hq;have S:=St.start w (some D) [] (dw P D d s) h;have J:=cq λw=>cP HA.o▸Am q st w;have C2:=cq λw h=>cP HA.o▸wH P D d s q HQ.o w h;have S0:=h;clear h;go_enter func89,ntmps89;cases Q:iP q st with
 |false=>
  rw[Q] at J;rw[Vv Q];go_wp2_with (first|refine je S (J.o _) λW S=>?_|go_step3|simp only[za,zd]|refine eR ?_|refine ey λW S=>?_);try rw[Exit.noGoto_ret]
  go_ret2;exact⟨_,rfl,gg.nil _ _,S.x,S.fr⟩
 |true=>
  rw[Q] at J;rcases hu:cQ s q with⟨s1,H,c1⟩;rw[hu] at C2;by_cases hc:c1=0
  . subst hc;rw[Vw Q hu];go_wp2_with (first|refine je S (J.o _) λW S=>?_|(refine(C2.o _ S.x).mono ?_;rintro e W ⟨N,rfl,O,u,l⟩;have HN:=cq O;replace S:=S.call l (λD e=>e) dU (dw P D d s1) (λ_ _=>u);clear u l O)|go_step3|simp only[za,zd]|refine eR ?_|refine ey λW S=>?_);have S:=cq (show St w (some D) [] _ [⟨106,3,_,1,gY [q]⟩] _ _ from by have:=(S.Su rfl);rw[oH];exact this);have HL:=cq λk=>xJ (s:=s) (by exact S0.dev.ok) q k;go_loopw [33,10] (λi v wr=>∃k M s',k<=8/\i=.int .i64 (k:Nat)/\M.length<=1+9*k/\Hid (sd st ((ly H).take k) (s1,([q],0))=(s',(M,0))/\St w (some D) [] [⟨_,191,24,dX H⟩,⟨_,106,3,c7 q⟩] [⟨106,3,v,M.length,gY M⟩] (Bq P D d s') wr)) (λi _ _=>8-(intOf i).toNat);exact⟨0,[q],s1,cw,rfl,by simp,rfl,S.o⟩;obtain⟨k,M,s',hk,rfl,hM,hS⟩:=hrel;by_cases T:k<8
    . have n:=KW (iL st) (s1,([q],0)) (ly H) (k:=k) (by rw[oI];exact T);rw[Hj] at n;have c:=hS.o.1;unfold sd at c;rw[c] at n;clear c;replace S:=hS.o.2;clear hS;obtain⟨p,u⟩:=c8 (H k);have a6:cY p:=by have:=HL.o k;rw[hu] at this;rw[<-u];exact this
      obtain⟨C,hC⟩:=eW (ct 3 (c7 p));have y:=cq λW=>(show(Instr.index 191 (.agg N) (.int .i64 (k:Nat))).run prog W=.ok (.agg C) W by rw[HN.o,hC,<-u];exact At H k T W);rw[u] at n;have b:=cq n;have Z:=cq hC;clear hC n;have K:=cq λw=>cP Z.o▸Am p st w;have C4:=cq λw h=>cP Z.o▸wH P D d s' p a6 w h;cases U:iP p st with
      |false=>(rw[U] at K;have o:iL st (s',(M,0)) p=(s',(M,0)):=by unfold iL;simp[U]);rw[o] at b;go_wp2_with (first|refine IV rfl rfl y.o ?_|refine nO S rfl rfl Z.o eN rfl (by rfl) (df _) λW S=>?_|refine je S (K.o _) λW S=>?_|go_step3|simp only[za,zd]|refine eR ?_);replace S:=cq (And.intro b.o S.pop);go_roundw;exact⟨k+1,M,s',cw,by go_num,cw,S⟩;simp[intOf];omega
      |true=>
       rw[U] at K;rcases hu2:cQ s' p with⟨s2,l2,c2⟩;rw[hu2] at C4;by_cases t:c2=0
       . (subst t;have o:iL st (s',(M,0)) p=(s2,(M++p:: (ly l2).filter (iP · st),0)):=by unfold iL;simp[U,hu2]);rw[o] at b;go_wp2_with (first|refine IV rfl rfl y.o ?_|refine je S (K.o _) λW S=>?_|(refine(C4.o _ S.x).mono ?_;rintro e W ⟨N2,rfl,f,m,l⟩;have z:=cq f;replace S:=S.call l (λD e=>e) dU (dw P D d s2) (λ_ _=>m);clear m l f)|refine rK S 0 rfl 0 rfl rfl rfl rfl fU (df _) (by simp only;omega) (by unfold maxLen;simp only;omega) λg cap W S=>?_|go_step3|simp only[za,zd]|refine eR ?_|refine ey λW S=>?_);(obtain⟨G,hG⟩:=eW (M++[p]);have a3:G.length=M.length+1:=by rw[hG];simp);(have S:=cq (show St w (some D) [] _ [⟨106,3,.slice (some ⟨g,0,none⟩) (M.length+1) cap,G.length,gY G⟩] _ _ from by rw[a3,hG,im,oH];exact S.pop);have x:∀F,M++p::F=G++F:=λF=>by rw[hG,wh];rfl);rw[x] at b;clear x hG;go_loopw [10,54] (λv i wr=>∃j,j<=8/\i=.int .i64 (j:Nat)/\Hid (St w (some D) [] [⟨_,191,24,dX l2⟩,⟨_,106,3,c7 p⟩,⟨_,191,24,dX H⟩,⟨_,106,3,c7 q⟩] [⟨106,3,v,(G++((ly l2).take j).filter (iP · st)).length,gY (G++((ly l2).take j).filter (iP · st))⟩] (Bq P D d s2) wr)) (λ_ i _=>8-(intOf i).toNat);exact⟨0,cw,rfl,cq (by rw[take_zero,filter_nil,vd];exact S.o)⟩;obtain⟨j,hj,rfl,hS⟩:=hrel;by_cases R:j<8
         . (have a:=yE (iP · st) (ly l2) (k:=j) (by rw[oI];exact R);rw[Hj] at a;obtain⟨r,hr⟩:=c8 (l2 j);obtain⟨B,hB⟩:=eW (ct 3 (c7 r));have L:=cq λW=>(show(Instr.index 191 (.agg N2) (.int .i64 (j:Nat))).run prog W=.ok (.agg B) W by rw[z.o,hB,<-hr];exact At l2 j R W);rw[hr] at a;have HB:=cq hB;clear hB;have X:=cq λw=>cP HB.o▸Am r st w;have a4:=Ei (iP · st) ((ly l2).take j);rw[kL] at a4;obtain⟨Y,I⟩:=eW (G++((ly l2).take j).filter (iP · st));have a7:Y.length<=80:=by rw[I,ik];omega);rw[<-I] at hS;replace S:=hS.o;clear hS;cases V:iP r st with|false=>rw[V] at X a;have HY:Hid (G++((ly l2).take (j+1)).filter (iP · st)=Y):=cq (by rw[a,I];simp);clear a I;go_wp2_with (first|refine IV rfl rfl L.o ?_|refine nO S rfl rfl HB.o eN rfl (by rfl) (df _) λW S=>?_|refine je S (X.o _) λW S=>?_|simp only[za,zd]|refine eR ?_);go_roundw;exact⟨j+1,cw,by go_num,by rw[HY.o];exact cq S.pop⟩;simp[intOf];omega|true=>rw[V] at X a;have HY:Hid (G++((ly l2).take (j+1)).filter (iP · st)=Y++[r]):=cq (by rw[a,I];simp);clear a I;go_wp2_with (first|refine IV rfl rfl L.o ?_|refine je S (X.o _) λW S=>?_|refine rK S 0 rfl 0 rfl rfl rfl rfl fU (df _) (by simp only;omega) (by unfold maxLen;simp only;omega) λg cap W S=>?_|simp only[za,zd]|refine eR ?_|refine ey λW S=>?_);go_roundw;exact⟨j+1,cw,by go_num,by rw[HY.o,ik,im,oH];exact cq S.pop.pop⟩;simp[intOf];omega
         . (obtain rfl:j=8:=cw;have E:=hS.o;rw[nz (by rw[oI];exact dK _)] at E;have a2:=cq (And.intro b.o E.pop.pop);have a5:(G++(ly l2).filter (iP · st)).length<=1+9*(k+1):=by have:=Ei (iP · st) (ly l2);rw[oI] at this;rw[ik];omega);clear hS E;go_wp2_with (simp only[za,zd]);go_roundw;exact⟨k+1,_,s2,cw,by go_num,a5,a2⟩;simp[intOf];omega
       . (have g:(c2 !=0)=true:=by simpa using t);(have o:iL st (s',(M,0)) p=(s2,([],c2)):=by unfold iL;simp[U,hu2,t]);rw[o] at b;go_wp2_with (first|refine IV rfl rfl y.o ?_|refine nO S rfl rfl Z.o eN rfl (by rfl) (df _) λW S=>?_|refine je S (K.o _) λW S=>?_|(refine(C4.o _ S.x).mono ?_;rintro e W ⟨N2,rfl,f,m,l⟩;have z:=cq f;replace S:=S.call l (λD e=>e) dU (dw P D d s2) (λ_ _=>m);clear m l f)|refine nO S rfl rfl z.o Bd rfl (by rfl) (mM _) λW S=>?_|go_step3|simp only[za,zd]|refine eR ?_);(try rw[Exit.noGoto_ret]);(go_ret2;have hr:sd st (ly H) (s1,([q],0))=(s2,([],c2)):=by unfold sd;rw[Sv _ _ _ (k+1),b.o];exact Za t);rw[hr];exact⟨_,rfl,gg.nil _ _,S.x,S.fr⟩
    . obtain rfl:k=8:=cw;have c:=hS.o.1;rw[nz (by rw[oI];exact dK _)] at c;have a1:=cq c;clear c;replace S:=hS.o.2;clear hS;go_wp2_with (first|go_step3|simp only[za,zd]);(try rw[Exit.noGoto_ret]);go_ret2;rw[a1.o];exact⟨_,rfl,S.o0,S.x,S.fr⟩
  . (rw[Sw Q hu hc];have g:(c1 !=0)=true:=by simpa using hc);go_wp2_with (first|refine je S (J.o _) λW S=>?_|(refine(C2.o _ S.x).mono ?_;rintro e W ⟨N,rfl,O,u,l⟩;have HN:=cq O;replace S:=S.call l (λD e=>e) dU (dw P D d s1) (λ_ _=>u);clear u l O)|go_step3|simp only[za,zd]|refine eR ?_|refine ey λW S=>?_);go_ret2;exact⟨_,rfl,gg.nil _ _,S.x,S.fr⟩
theorem Dk{f:β->α->β}{b:β}(h:∀x,f b x=b)(l:List α):l.foldl f b=b:=by induction l<;>grind
def EX{f:β->α->β}{a b:β}{l:List α}(c:(l.take k).foldl f a=b)(h:∀x,f b x=b):l.foldl f a=b:=by
 conv=>lhs;rw[<-zZ k l]
 rw[Ab,c,Dk h]
theorem uG{f:β->α->β}{a b:β}{l:List α}{x:α}(c:(l.take k).foldl f a=b)(d:l[k]?=some x):(l.take (k+1)).foldl f a=f b x:=by grind[take_add_one]
def yJ(l:Nat->cy)(m:Nat):Bool:=(range 8).all λi=>decide (l i≠cH)==decide (i<m)
theorem VY{l:Nat->cy}(a:i<8)(h:(decide (l i≠cH)==decide (i<m))=false):yJ l m=false:=by grind[yJ]
theorem Tm{l:Nat->cy}(h:∀i,i<8->(decide (l i≠cH)==decide (i<m))=true):yJ l m=true:=by grind[yJ]
def eU(l:List cy):Prop:=∀q∈l,cY q
def dy:eU []:=λ_ h=>absurd h iS
def fH(want:Nat)(a:Pl×(List cy×Int))(q:cy):Pl×(List cy×Int):=
 if a.2.2≠0 then a else
 if(cQ a.1 q).2.2≠0 then((cQ a.1 q).1,([],(cQ a.1 q).2.2)) else
 if yJ (cQ a.1 q).2.1 (min 8 (want-a.2.1.length))=true then((cQ a.1 q).1,(a.2.1++(ly (cQ a.1 q).2.1).take (min 8 (want-a.2.1.length)),0))
 else((cQ a.1 q).1,([],91))
def fj(s:Pl)(l:List cy)(want:Nat):Pl×(List cy×Int):=l.foldl (fH want) (s,([],0))
theorem Lu(hc:c≠0)(q:cy):fH want (s,([],c)) q=(s,([],c)):=by grind[fH]
def x9(a:(l.take k).foldl (fH want) (s,([],0))=(s1,(M,0)))(b:l[k]?=some q)(d:fH want (s1,(M,0)) q=(s2,([],c)))(hc:c≠0):fj s l want=(s2,([],c)):=
 EX (k:=k+1) ((uG a b).trans d) (Lu hc)
theorem VZ(b y:Nat)(e:y<=8)(W:cB):(Instr.sliceAt 191 (.pointer (some ⟨b,0,none⟩)) none (some (.int .i64 y)) none).run prog W=.ok (.slice (some ⟨b,0,none⟩) y 8) W:=by have d:prog.underlying 191=some (.array 8 106):=EF;obtain⟨f,a,c⟩:=uS jD;simp_all[Instr.sliceBound,asIntOf,Instr.sliceAt,Instr.sureAddr,Instr.sliceBounds,Addr.add]
theorem Dl(h:cu w b t n f)(c:xs.length=m*z)(a:m<=cap)(hc:cap<=maxLen)(d:∀j u,xs[j]?=some u->j<n/\f j=u):cK w t z (.slice (some ⟨b,0,none⟩) m cap) m xs:=
 ⟨c,_,_,ae,a,hc,λ_=>⟨b,0,_,_,ae,h,λj u e=>by
  simp_all[cU]⟩⟩
theorem V0(l:Nat->cy)(e:m<=8):∀j u,(gY ((ly l).take m))[j]?=some u->j<24/\dX l j=u:=by
 intro j u h;have d:((ly l).take m).length=m:=by grind[oI]
 have c:j<m*3:=by grind[xK]
 have a:j/3<((ly l).take m).length:=cw;have b:=jK ((ly l).take m) a (A:=ct 3 (c7 (l (j/3)))) (by
  grind[Hj]) (j%3) cw
 rw[show j/3*3+j%3=j by omega,h,cU,cL cw] at b;grind[dX]
def Nr(P D H:Nat)(s:Pl)(l:List cy)(v:cI)(b5:l.length<=1000000)(hl:∀q∈l,cY q)(want:Nat)(hw:want<=1000000)(w:cB)(h:ej w P D H s)(R:ko w v l):
 CP_ 193 #[.pointer (some ⟨P,0,none⟩),v,.int .i64 want] w λe w'=>∃r,e=.returned (.tuple #[r,.int .i64 (fj s l want).2.2])/\gg w' w.heap.size r (fj s l want).2.1/\eU (fj s l want).2.1/\ej w' P D H (fj s l want).1/\Fr (some D) [] w w':=by
 obtain⟨ao,cap,rfl,b1,X⟩:=du R;have RL:=cq R;have X:=cq X;have HQ:=cq hl;have S:=St.start w (some D) [] (dw P D H s) h;clear R hl h;go_enter func193,ntmps193;go_wp2_with (refine IX S (by':=24) fU rfl rfl cw wR rfl rfl λg W S=>?_);go_loopw [21,8] (λi u wr=>∃k M s' ua uc,k<=l.length/\i=.int .i64 k/\M.length<=want/\u=.slice ua M.length uc/\Hid ((l.take k).foldl (fH want) (s,([],0))=(s',(M,0))/\(∀q∈M,cY q)/\St w (some D) [] [] [⟨106,3,.slice ua M.length uc,M.length,gY M⟩] (Bq P D H s') wr)) (λi _ _=>l.length-(intOf i).toNat);exact⟨0,[],s,_,_,cw,rfl,by simp,rfl,cq ⟨rfl,λ_ h=>absurd h iS,S⟩⟩;clear S;obtain⟨k,M,s',ua,uc,hk,rfl,hM,rfl,hS⟩:=hrel;by_cases z:k<l.length
 . (obtain⟨b,o,rfl⟩:=X.o cw;obtain⟨q,O⟩:=c8 (l[k]);have n:l[k]?=some q:=by rw[iz z,O]);(obtain⟨AQ,V⟩:=eW (ct 3 (c7 q));have G:=cq (jK l z (A:=AQ) (by rw[O];exact V));have a9:cY q:=HQ.o q (O▸lU _);have d:=cq V;obtain⟨S,S2⟩:Hid (St w (some D) [] [] [⟨106,3,.slice ua M.length uc,M.length,gY M⟩] (Bq P D H s') wr)/\Hid ((l.take k).foldl (fH want) (s,([],0))=(s',(M,0))):=⟨cq hS.o.2.2,cq hS.o.1⟩;have U:=cq hS.o.2.1;have C:=BQ S.o.x.dev.ok q;have S:=S.o;clear hS O V;have C1:=cq λW h=>cP d.o▸yI P D H s' q a9 W h;have a:cQ s' q=if(fD s' q).2.2≠0 then((fD s' q).1,(l6,(fD s' q).2.2)) else match oF (fD s' q).2.1 with|none=>((fD s' q).1,(l6,91))|some l=>((fD s' q).1,(l,0)):=rfl);rcases hg:fD s' q with⟨s1,p,c1⟩;rw[hg] at C1 C a;simp only at C1 C a;clear hg;by_cases hc:c1=0
   . subst hc;rw[cM dU] at a;cases hn:oF p with
     |none=>rw[hn] at a;have c:fj s l want=(s1,([],91)):=x9 S2.o n (by unfold fH;rw[a];simp) jR;have f:=cq c;have I:=cq λB(t:B=ct 128 (cN p))W=>Au p C B t W;rw[hn] at I;have x:fp 51 (none:Option (Nat->cy))=51:=rfl;rw[x] at I;clear c a n hn x;go_wp2_with (first|refine Bf (RL.o.fr S.fr (.inr rfl) rfl) z (tL d) G.o ?_|refine nO S rfl rfl d.o eN rfl mB (df _) λW S=>?_|(refine(C1.o _ S.x).mono ?_;rintro e W ⟨B,rfl,t,L,K⟩;have T:=cq t;replace S:=S.call K (λD e=>e) dU (dw P D H s1) (λ_ _=>L);clear L K t)|refine nO S rfl rfl T.o BT rfl mB (iJ _) λW S=>?_|(refine(I.o _ T.o _).mono ?_;rintro e W ⟨N,rfl,hN,hb⟩;have HN:=cq hN;replace S:=S.cx hb;clear hb hN)|refine nO S rfl rfl HN.o Bd rfl mB (mM _) λW S=>?_|refine eR ?_);go_ret2;rw[f.o];exact⟨_,rfl,gg.nil _ _,dy,S.x,S.fr⟩
     |some l1=>
      rw[hn] at a;have I:=cq λB(t:B=ct 128 (cN p))W=>Au p C B t W;rw[hn] at I;have x:fp 51 (some l1)=0:=rfl;rw[x] at I;simp only[ku] at I;clear x;obtain⟨m,hm⟩:=eW (min 8 (want-M.length));have c:fH want (s',(M,0)) q=if yJ l1 m=true then(s1,(M++(ly l1).take m,0)) else(s1,([],91)):=by unfold fH;rw[a,hm];simp
      have f:=cq c;have a2:=cq n;have a7:=cq (yD C hn);have Z:m<=8:=cw;have b6:min (8:Int) ((want:Int)-(M.length:Int))=(m:Int):=cw;have HM:=cq hm;clear a hn c n hm
      go_wp2_with first|refine Bf (RL.o.fr S.fr (.inr rfl) rfl) z (tL d) G.o ?_|refine nO S rfl rfl d.o eN rfl mB (df _) λW S=>?_|(refine(C1.o _ S.x).mono ?_;rintro e W ⟨B,rfl,t,L,K⟩;have T:=cq t;replace S:=S.call K (λD e=>e) dU (dw P D H s1) (λ_ _=>L);clear L K t)|refine nO S rfl rfl T.o BT rfl mB (iJ _) λW S=>?_|(refine(I.o _ T.o _).mono ?_;rintro e W ⟨N,rfl,hN,hb⟩;have HN:=cq hN;replace S:=S.cx hb;clear hb hN)|refine nO S rfl rfl HN.o Bd rfl mB (mM _) λW S=>?_|refine eR ?_
      have b2:=S2
      go_loopw [47] (λi wr=>∃j:Nat,j<=8/\i=.int .i64 j/\Hid ((∀r,r<j->(decide (l1 r≠cH)==decide (r<m))=true)/\St w (some D) [] [⟨_,191,24,dX l1⟩,⟨_,36,128,cN p⟩,⟨_,106,3,c7 q⟩] [⟨106,3,.slice ua M.length uc,M.length,gY M⟩] (Bq P D H s1) wr)) (λi _=>8-(intOf i).toNat)
      case atStart=>exact⟨0,cw,rfl,cq ⟨λr h=>by omega,S⟩⟩
      case round=>
       clear S;obtain⟨j,hj,rfl,hS⟩:=hrel;by_cases a3:j<8
       . obtain⟨r,hr⟩:=c8 (l1 j);obtain⟨E,hE⟩:=eW (ct 3 (c7 r));have a5:=cq λW=>(show(Instr.index 191 (.agg N) (.int .i64 j)).run prog W=.ok (.agg E) W by rw[HN.o,hE,<-hr];exact At l1 j a3 W);have HE:=cq hE;clear hE;have a4:=cq hS.o.1;have S:=hS.o.2;clear hS;obtain⟨bq,Y⟩:=c8 (decide (r=cH));have b7:∀W,(binOp .neq 106 (.agg E) (.agg #[Value.int .i64 0,.int .u64 0,.int .u32 0])).run prog W=.ok (.bool !bq) W:=λW=>by
          have:=Ew r cH bq Y W;rw[cP HE.o] at this;exact this
         have J:Hid (decide (l1 j≠cH)= !bq):=cq (by rw[hr,<-Y];simp);clear hr Y;cases bq<;>by_cases b4:(j:Int)<(m:Int)
         all_goals(
         have b3:=cq (show decide (j<m)=decide ((j:Int)<(m:Int)) from by simp)
         go_wp2_with first|refine IV rfl rfl a5.o ?_|refine nO S rfl rfl HE.o eN rfl mB (df _) λW S=>?_|refine eR ?_
         first
          |(go_ret2;rw[x9 S2.o a2.o (by rw[f.o,VY a3 (by rw[J.o];by_cases h9:j<m<;>simp[h9]<;>omega)];rfl) jR];exact⟨_,rfl,gg.nil _ _,dy,S.x,S.fr⟩)
          |(go_roundw
            case rel=>
             refine⟨j+1,cw,by go_num,cq ⟨λq O=>?_,S.pop⟩⟩;rcases Bz.1 O with h|h
             . exact a4.o q h
             . rw[h,J.o];by_cases h9:j<m<;>simp[h9]<;>omega
            case measure=>simp[intOf];omega)
         )
       . obtain rfl:j=8:=cw;have Q:=Tm hS.o.1;have S:=hS.o.2;have F:=f.o;rw[cL Q] at F;have a6:=cq (uG S2.o a2.o |>.trans F);have a:((ly l1).take m).length=m:=by rw[kL,oI];omega
         have a8:M.length+m<=want:=by have:=HM.o;omega
         clear hS Q F
         go_wp2_with first|((with_reducible refine XD 61 191 13 ?_);refine mD rfl 191 (.tmp 13) none (some (.tmp 60)) none rfl _ (VZ _ m Z _) ?_)|(refine EP S 0 rfl (by':=24) rfl rfl (Dl S.k0 (by rw[xK,a]) Z wR (V0 l1 Z)) fU (nG _) Br wR ?_;clear S;intro v' W S)
         have HF:Hid (∃va vc,v'=.slice va (M.length+m) vc):=cq (cS S.o0);go_roundw
         case rel=>
          obtain⟨va,vc,rfl⟩:=HF.o;refine⟨k+1,M++(ly l1).take m,s1,va,vc,cw,by go_num,by rw[ik,a];exact a8,by rw[ik,a],cq ⟨a6.o,λq O=>?_,?_⟩⟩
          . rcases fL.1 O with h|h
            . exact U.o q h
            . obtain⟨r,_,rfl⟩:=fM.1 (lu h);exact a7.o r
          rw[ik,a,im];exact S.pop.pop.pop
         case measure=>exact oV
   . (have c:fj s l want=(s1,([],c1)):=by rw[cL hc] at a;exact x9 S2.o n (by unfold fH;rw[a];simp[hc]) hc);have f:=cq c;have g1:(c1 !=0)=true:=eO.2 hc;have HC:=cq hc;clear c a hc n;go_wp2_with (first|refine Bf (RL.o.fr S.fr (.inr rfl) rfl) z (tL d) G.o ?_|refine nO S rfl rfl d.o eN rfl mB (df _) λW S=>?_|(refine(C1.o _ S.x).mono ?_;rintro e W ⟨B,rfl,t,L,K⟩;have T:=cq t;replace S:=S.call K (λD e=>e) dU (dw P D H s1) (λ_ _=>L);clear L K t)|refine nO S rfl rfl T.o BT rfl mB (iJ _) λW S=>?_|refine eR ?_);go_ret2;rw[f.o];exact⟨_,rfl,gg.nil _ _,dy,S.x,S.fr⟩
 . obtain rfl:k=l.length:=cw;have y:=hS.o.1;rw[oT] at y;have a1:=cq (show fj s l want=(s',(M,0)) from y);have U:=cq hS.o.2.1;have S:=hS.o.2.2;clear hS y;go_wp2;go_ret2;rw[a1.o];exact⟨_,rfl,S.o0,U.o,S.x,S.fr⟩
def jw(a:Pl×(cD×Int))(q:cy):Pl×(cD×Int):=
 if a.2.2≠0 then a else
 if(fD a.1 q).2.2≠0 then((fD a.1 q).1,([],(fD a.1 q).2.2)) else((fD a.1 q).1,(a.2.1++(fD a.1 q).2.1,0))
def oM(s:Pl)(l:List cy):Pl×(cD×Int):=l.foldl jw (s,([],0))
def eo(s:Pl)(l:List cy)(n:Nat):Pl×(cD×Int):=
 if(oM s l).2.2≠0 then((oM s l).1,([],(oM s l).2.2)) else
 if((oM s l).2.1.drop n).all (λc=>decide (c=0))=true then((oM s l).1,((oM s l).2.1.take n,0)) else((oM s l).1,([],91))
theorem Ns(hc:c≠0)(q:cy):jw (s,([],c)) q=(s,([],c)):=by grind[jw]
def Tn{M:cD}(a:(l.take k).foldl jw (s,([],0))=(s1,(M,0)))(b:l[k]?=some q)(d:jw (s1,(M,0)) q=(s2,([],c)))(hc:c≠0):oM s l=(s2,([],c)):=
 EX (k:=k+1) ((uG a b).trans d) (Ns hc)
structure F7(w:cB)(base:Nat)(v:cI)(l:cD):Prop where
 sl:cK w 5 1 v l.length (dH l)
 new:0<l.length->∀b,v.ownBlock=some b->base<=b
 lt:∀x∈l,x<256
def F7.nil(w:cB)(base:Nat):F7 w base (.slice none 0 0) []:=⟨cK.nil _ _ _,λh=>absurd h (tP _),λ_ h=>absurd h iS⟩
theorem cK.cut{c:Nat}(h:cK w e z (.slice ao n c) n xs)(k:i<=n):cK w e z (.slice ao i i) i (xs.take (i*z)):=by obtain⟨d,b,cap,a,f,g,j⟩:=h;simp only[kM] at a;obtain⟨rfl,-,rfl⟩:=a;refine⟨by simp_all,ao,i,ae,dK _,cw,λh=>?_⟩;grind
def acu{a:Option Addr}{c e d:Nat}(h:(Value.slice a n c).ownBlock=some b):(Value.slice a e d).ownBlock=some b:=by cases a<;>exact h
theorem ZF(h:ER P t z)(ao:Option Addr)(n c y:Nat)(a:y<=c)(W:cB):(Instr.sliceAt t (.slice ao n c) none (some (.int .i64 y)) (some (.int .i64 y))).run P W=.ok (.slice ao y y) W:=by rw[xT h,run_slice_hm W t ao n c h.1 .i64 .i64 (y:Nat) (y:Nat) cw cw cw,h.2];simp_all[sliced,Addr.add]
theorem ze(l m:cD):dH (l++m)=dH l++dH m:=by grind[dH]
theorem agK{s:cD}(h:cu w E 36 128 (cN s))(a:iY s):cK w 36 1 (.slice (some ⟨E,0,none⟩) 128 128) 128 (dH s):=by have b:=(kZ.sec h a).1;grind[cK,dH]
theorem Qu(P D y:Nat)(s:Pl)(l:List cy)(v:cI)(c3:l.length<=100000)(hl:eU l)(n:Nat)(hn:n<=l.length*128)(w:cB)(h:ej w P D y s)(R:ko w v l):
 CP_ 194 #[.pointer (some ⟨P,0,none⟩),v,.int .i64 n] w λe w'=>∃r,e=.returned (.tuple #[r,.int .i64 (eo s l n).2.2])/\F7 w' w.heap.size r (eo s l n).2.1/\ej w' P D y (eo s l n).1/\Fr (some D) [] w w':=by
 obtain⟨ao,cap,rfl,b6,Y⟩:=du R;have RL:=cq R;have Y:=cq Y;have HQ:=cq hl;have S:=St.start w (some D) [] (dw P D y s) h;clear R hl h;have w1:IntKind.i64.wrap ((l.length:Int)*128)=((l.length*128:Nat):Int):=by rw[j0 _ cw];omega
 go_enter func194,ntmps194;go_wp2_with (refine IX S (by':=1) (n:=l.length*128) AD rfl rfl cw wR rfl rfl λg W S=>?_);go_loopw [21,8] (λi u wr=>∃k M s' L G,k<=l.length/\i=.int .i64 k/\M.length=k*128/\u=.slice L (k*128) G/\Hid ((l.take k).foldl jw (s,([],0))=(s',(M,0))/\(∀x∈M,x<256)/\St w (some D) [] [] [⟨5,1,.slice L (k*128) G,k*128,dH M⟩] (Bq P D y s') wr)) (λi _ _=>l.length-(intOf i).toNat);exact⟨0,[],s,_,_,cw,rfl,by simp,by rw[xi],cq ⟨rfl,λ_ h=>absurd h iS,by rw[xi];exact S⟩⟩;clear S;obtain⟨k,M,s',L,G,hk,rfl,hM,rfl,hS⟩:=hrel;by_cases z:k<l.length
 . (obtain⟨b,o,rfl⟩:=Y.o cw;obtain⟨q,hq⟩:=c8 (l[k]);have F:l[k]?=some q:=by rw[iz z,hq]);(obtain⟨AQ,V⟩:=eW (ct 3 (c7 q));have K:=cq (jK l z (A:=AQ) (by rw[hq];exact V));have b5:cY q:=HQ.o q (hq▸lU _);have f:=cq V;have S2:=cq hS.o.1;have Q:=cq hS.o.2.1;have S:=hS.o.2.2;have m:=cq hM;have C:=BQ S.x.dev.ok q;clear hS hq V hM;have C1:=cq λW h=>cP f.o▸yI P D y s' q b5 W h;have d:jw (s',(M,0)) q=if(fD s' q).2.2≠0 then((fD s' q).1,([],(fD s' q).2.2)) else((fD s' q).1,(M++(fD s' q).2.1,0)):=by unfold jw;simp);rcases hg:fD s' q with⟨s1,a7,c1⟩;rw[hg] at C1 C d;simp only at C1 C d;clear hg;by_cases hc:c1=0
   . subst hc;rw[cM dU] at d;have a8:=cq ((uG S2.o F).trans d);have T:=cq C;have a9:=cq λW E(h:cu W E 36 128 (cN a7))=>agK h T.o;clear d F C;go_wp2_with (first|refine Bf (RL.o.fr S.fr (.inr rfl) rfl) z (tL f) K.o ?_|refine nO S rfl rfl f.o eN rfl mB (df _) λW S=>?_|(refine(C1.o _ S.x).mono ?_;rintro e W ⟨B,rfl,hB,hp,hf⟩;have HB:=cq hB;replace S:=S.call hf (λD e=>e) dU (dw P D y s1) (λ_ _=>hp);clear hB)|refine nO S rfl rfl HB.o BT rfl mB (iJ _) λW S=>?_|((with_reducible refine XD 35 36 11 ?_);refine mD rfl 36 (.tmp 11) none none none rfl _ (YU _ _) ?_)|((with_reducible refine abP 36 34 35 ?_);refine EP S 0 rfl (by':=1) rfl rfl (a9.o _ _ S.k0) AD (Eu _) Br wR ?_;clear S;intro v' W S)|refine eR ?_);have HF:Hid (∃va vc,v'=.slice va (k*128+128) vc):=cq (cS S.o0);go_roundw;obtain⟨va,vc,rfl⟩:=HF.o;refine⟨k+1,M++a7,s1,va,vc,cw,by go_num,by rw[ik,m.o,T.o.1];omega,by rw[succ_mul],cq ⟨a8.o,λx hx=>(fL.1 hx).elim (Q.o x) (T.o.2 x),?_⟩⟩;rw[succ_mul,ze];exact S.pop.pop;exact oV
   . (have a:oM s l=(s1,([],c1)):=by rw[cL hc] at d;exact Tn S2.o F d hc);(have J:eo s l n=(s1,([],c1)):=by unfold eo;rw[a];simp[hc]);have p:=cq J;have g1:(c1 !=0)=true:=eO.2 hc;have HC:=cq hc;clear a d hc F J;go_wp2_with (first|refine Bf (RL.o.fr S.fr (.inr rfl) rfl) z (tL f) K.o ?_|refine nO S rfl rfl f.o eN rfl mB (df _) λW S=>?_|(refine(C1.o _ S.x).mono ?_;rintro e W ⟨B,rfl,hB,hp,hf⟩;have HB:=cq hB;replace S:=S.call hf (λD e=>e) dU (dw P D y s1) (λ_ _=>hp);clear hB)|refine nO S rfl rfl HB.o BT rfl mB (iJ _) λW S=>?_|refine eR ?_);go_ret2;rw[p.o];exact⟨_,rfl,F7.nil _ _,S.x,S.fr⟩
 . (obtain rfl:k=l.length:=cw;have t:=hS.o.1;rw[oT] at t;have a4:=cq (show oM s l=(s',(M,0)) from t);have Q:=cq hS.o.2.1;have S:=hS.o.2.2;have m:=cq hM;have I:eo s l n=if(M.drop n).all (λc=>decide (c=0))=true then(s',(M.take n,0)) else(s',([],91)):=by unfold eo;rw[a4.o];simp);(have O:=cq I;clear hS t I hM;obtain⟨N,hN⟩:=c8 (l.length*128);rw[hN] at hn m S;rw[hN];have b7:((l.length:Nat):Int)*128=(N:Int):=cw;obtain⟨da,a2⟩:=xm (kx L G n 1);have X:∀W,St w (some D) [] [] [⟨5,1,.slice L N G,N,dH M⟩] (Bq P D y s') W->cK W 5 1 (.slice da (N-n) (G-n)) (N-n) (dH (M.drop n)):=λW S=>by have U:=S.q0.Bj hn;rw[q7,vz,<-a2.o] at U;exact U);(have a5:=cq X;have H:0<N-n->∃b o,da=s_ b o:=by obtain⟨_,_,he,_,h2⟩:=du (X _ S);simp only[kM] at he;rw[he.1];exact h2);(have a3:=cq H;have b1:(M.drop n).length=N-n:=by rw[r8,m.o]);clear X H;go_wp2_with (refine xU tz rfl rfl hn ?_;rw[<-a2.o]);obtain⟨Z,hZ⟩:=c8 (M.drop n);rw[hZ] at O a5 b1;go_loopw [42] (λi wr=>∃j:Nat,j<=N-n/\i=.int .i64 j/\Hid ((∀r c,r<j->Z[r]?=some c->c=0)/\St w (some D) [] [] [⟨5,1,.slice L N G,N,dH M⟩] (Bq P D y s') wr)) (λi _=>(N-n)-(intOf i).toNat);exact⟨0,cw,rfl,cq ⟨λr c h=>by omega,S⟩⟩;clear S;obtain⟨j,hj,rfl,hS⟩:=hrel;by_cases b9:j<N-n
   . obtain⟨b,o,rfl⟩:=a3.o cw;have b3:j<Z.length:=cw;obtain⟨c,hc⟩:∃c,Z[j]?=some c:=⟨_,iz b3⟩;have a6:=cq hS.o.1;have S:=hS.o.2;clear hS;have b2:=(a5.o _ S).cellAt cw (show(dH Z)[j]?=some (.int .u8 c) from by unfold dH;rw[ql,hc];rfl);have HC:=cq hc;clear hc;have b8:(j:Int)<((N-n:Nat):Int):=cw;by_cases a1:c=0
     . have g:((c:Nat):Int)=0:=cw;subst a1;go_wp2;go_roundw;refine⟨j+1,cw,by go_num,cq ⟨λr c hr hc=>?_,S⟩⟩;rcases Bz.1 hr with h|h;exact a6.o r c h hc;rw[h,HC.o] at hc;exact(ve hc).symm;exact oV
     . (have g:(((c:Nat):Int) !=0)=true:=by rw[eO];omega);(have a:eo s l n=(s',([],91)):=by rw[O.o,cM];intro U;have h8:=qk.1 U c (kt HC.o);exact a1 (by simpa using h8));have p:=cq a;clear a a1;go_wp2;go_ret2;rw[p.o];exact⟨_,rfl,F7.nil _ _,S.x,S.fr⟩
   . (obtain rfl:j=N-n:=cw;have a:eo s l n=(s',(M.take n,0)):=by rw[O.o,cL];rw[qk];intro c hc;obtain⟨i,hi,rfl⟩:=xh.1 hc;simpa using hS.o.1 i Z[i] cw (iz hi));(have p:=cq a;have S:=hS.o.2;clear hS a;have b4:n<=G:=by obtain⟨_,_,he,c2,_⟩:=du S.q0;grind);go_wp2_with (refine mD rfl 22 (.tmp 49) none (some (.tmp 50)) (some (.tmp 51)) rfl _ (ZF tz L N G n b4 _) ?_);go_ret2;rw[p.o];refine⟨.slice L n n,rfl,⟨?_,λ_ b hb=>?_,λx hx=>Q.o x (lu hx)⟩,S.x,S.fr⟩;have U:=S.q0.cut hn;rw[q7,sk] at U;rw[show(M.take n).length=n by rw[kL,m.o];omega];exact U;exact(S.o0.lt b (acu hb)).1
end
theorem Lw(f s:Nat):(iT f s)[0]?=some s:=by cases f<;>grind[iT]
theorem V1(f:Nat):∀s,1<=s->s<=8^f->(iT f s).getLast?=some 1:=by
 induction f with
 |zero=>
  intro s a b;obtain rfl:s=1:=by(have:8^0=1:=rfl);omega
  rfl
 |succ f ih=>
  intro s a b;unfold iT;split;next h=>(have c:8^(f+1)=8*8^f:=by rw[Nat.pow_succ,Nat.mul_comm]);rw[getLast?_cons,ih ((s+7)/8) cw cw];rfl
  obtain rfl:s=1:=cw;rfl
theorem V2(f:Nat):∀s i x y,(iT f s)[i]?=some x->(iT f s)[i+1]?=some y->x<=8*y:=by
 induction f with
 |zero=>grind[iT]
 |succ f ih=>
  intro s i x y a b;unfold iT at a b;split at a;next h=>rw[cL h] at b;grind[Lw]
  grind
theorem Nt(h:(fH want a q).2.2=0):a.2.2=0/\(fH want a q).2.1.length=a.2.1.length+min 8 (want-a.2.1.length):=by unfold fH at h|-;by_cases b:a.2.2≠0;grind;rw[cM b] at h|-;by_cases c:(cQ a.1 q).2.2≠0;grind;rw[cM c] at h|-;refine⟨cw,?_⟩;split;grind[oI];grind
theorem OG(want:Nat):∀(l:List cy)(a:Pl×(List cy×Int)),(l.foldl (fH want) a).2.2=0->a.2.1.length<=want->a.2.2=0/\(l.foldl (fH want) a).2.1.length=min (a.2.1.length+8*l.length) want
 | [],a,h,hw=>⟨h,by simp;omega⟩
 |q::l,a,h,hw=>by
  rw[ym] at h|-;by_cases hc:(fH want a q).2.2=0
  . obtain⟨d,b⟩:=Nt hc;obtain⟨_,e⟩:=OG want l _ h (by rw[b];omega);exact⟨d,by rw[e,b,kr];omega⟩
  . rcases hr:fH want a q with⟨s,m,c⟩;rw[hr] at h hc
    simp_all[Dk,fH]
theorem DU{s':Pl}(h:fj s l want=(s',(M,0))):M.length=min (8*l.length) want:=by have:=(OG want l (s,([],0)) (by grind[fj]) (fN _)).2;grind[fj]
def iM(a:Pl×(List cy×List cy×Int))(want:Nat):Pl×(List cy×List cy×Int):=
 if a.2.2.2≠0 then a else
 if(fj a.1 a.2.1 want).2.2≠0 then((fj a.1 a.2.1 want).1,([],[],(fj a.1 a.2.1 want).2.2))
 else((fj a.1 a.2.1 want).1,((fj a.1 a.2.1 want).2.1,a.2.2.1++(fj a.1 a.2.1 want).2.1,0))
theorem Nu(hc:c≠0)(n:Nat):iM (s,([],[],c)) n=(s,([],[],c)):=by grind[iM]
def qG(n:Int):cD:=(jV n).dropLast.reverse
def dP(s:Pl)(cz:cy)(n:Int):Pl×(cD×List cy×Int):=
 if jV n=[]∨cz=cH then(s,([],[],121)) else
 let r:=(qG n).foldl iM (s,([cz],[cz],0))
 if r.2.2.2≠0 then(r.1,([],[],r.2.2.2)) else
 let t:=eo r.1 r.2.1 n.toNat
 if t.2.2≠0 then(t.1,([],[],t.2.2)) else(t.1,(t.2.1,r.2.2.1,0))
theorem ZG{n:Int}(a:j<(qG n).length):(qG n)[j]?=(jV n)[(jV n).length-2-j]?:=by unfold qG at a|-;grind
theorem OH(n:Int):(qG n).length=(jV n).length-1:=by grind[qG]
section
variable {a:Act}
end
section
attribute[local irreducible]wpList Code.wp Calls Oper.wp wpAnyH
theorem wI(P D I:Nat)(s:Pl)(cz:cy)(hr:cY cz)(n:Int)(w:cB)(h:ej w P D I s):
 CP_ 147 #[.pointer (some ⟨P,0,none⟩),lT cz,.int .i64 n] w λe w'=>∃r q,e=.returned (.tuple #[r,q,.int .i64 (dP s cz n).2.2.2])/\F7 w' w.heap.size r (dP s cz n).2.1/\gg w' w.heap.size q (dP s cz n).2.2.1/\eU (dP s cz n).2.2.1/\ej w' P D I (dP s cz n).1/\Fr (some D) [] w w':=by
 obtain⟨A,hA⟩:=eW (ct 3 (c7 cz));rw[cP hA];have HA:=cq hA;have C1:=cq λw=>Lo n w;have S:=St.start w (some D) [] (dw P D I s) h;clear hA;obtain⟨a,l⟩:=c8 (jV n);rw[l] at C1;go_enter func147,ntmps147;by_cases h0:a=[]
 . have d:dP s cz n=(s,([],[],121)):=by unfold dP;rw[cL (.inl (by rw[l];exact h0))]
   subst h0;have C:=cq d;clear d
   go_wp2_with first|(refine(C1.o _).mono ?_;rintro e W ⟨r,rfl,ho,J⟩;have T:=cq (cS ho);have N:=(S.gm J ho rfl rfl).SY (cK.iW ((S.gm J ho rfl rfl).s8 (k:=0) rfl)) (λ_=>rfl) rfl rfl;have S:=N;obtain⟨ra,rc,rfl⟩:=T.o)|refine ey λW S=>?_
   go_ret3;rw[C.o];exact⟨_,_,rfl,F7.nil _ _,gg.nil _ _,dy,S.x.1,S.fr⟩
 have d1:1<=n/\n<=65535:=by
  unfold jV at l;split at l
  . exact absurd l.symm h0
  . omega
 obtain⟨k,rfl⟩:∃k:Nat,n=k:=⟨n.toNat,cw⟩;obtain⟨s0,c1⟩:=c8 ((k+127)/128);have L:a=iT 10 s0:=by rw[<-l];unfold jV;rw[cM cw,<-c1];rfl
 have G:a[0]?=some s0:=by rw[L];exact Lw _ _
 have a1:a.getLast?=some 1:=by rw[L];exact V1 _ _ cw cw
 have H:∀i x y,a[i]?=some x->a[i+1]?=some y->x<=8*y:=by rw[L];exact V2 _ _
 have a9:∀x∈a,x<=512:=by rw[<-l];exact zM _
 have d2:a.length<=11:=by rw[<-l];exact x7 _
 have c2:0<a.length:=z7.2 h0;have X:=cq H;have U:=cq G;have a3:=cq a9;have z:a[a.length-1]?=some 1:=by rw[<-a1,getLast?_eq_getElem?]
 have V:=cq z;have H0:=cq h0;clear L G H a9 h0 z;obtain⟨bq,Z⟩:=c8 (decide (cz=cH));have c4:∀W,(binOp .eql 106 (.agg A) (.agg #[Value.int .i64 0,.int .u64 0,.int .u32 0])).run prog W=.ok (.bool bq) W:=λW=>by
  have:=Ev cz cH bq Z W;rw[cP HA.o] at this;exact this
 have g0:((a.length:Int)==0)=false:=by rw[lx];omega
 cases bq with
 |true=>
  have d:dP s cz k=(s,([],[],121)):=by unfold dP;rw[cL (.inr (lr Z))]
  have C:=cq d;clear d
  go_wp2_with first|refine jj 22 106 4 S 0 HA.o ?_|(refine(C1.o _).mono ?_;rintro e W ⟨r,rfl,ho,J⟩;have T:=cq (cS ho);have N:=(S.gm J ho rfl rfl).SY (cK.iW ((S.gm J ho rfl rfl).s8 (k:=0) rfl)) (λ_=>rfl) rfl rfl;have S:=N;obtain⟨ra,rc,rfl⟩:=T.o)|(refine lh cX ?_;refine Az K3 ?_)|refine ey λW S=>?_
  go_ret3;rw[C.o];exact⟨_,_,rfl,F7.nil _ _,gg.nil _ _,dy,S.x.1,S.fr⟩
 |false=>
  have b8:cz≠cH:=xg Z;have d:dP s cz k=(let r:=(qG k).foldl iM (s,([cz],[cz],0));if r.2.2.2≠0 then(r.1,([],[],r.2.2.2)) else let t:=eo r.1 r.2.1 k;if t.2.2≠0 then(t.1,([],[],t.2.2)) else(t.1,(t.2.1,r.2.2.1,0))):=by
   unfold dP;rw[l,cM (by intro h;rcases h with h|h;exact H0.o h;exact b8 h)];rfl
  have C:=cq d;clear d
  go_wp2_with first|(first|refine jj 22 106 4 S 0 HA.o ?_)|(refine(C1.o _).mono ?_;rintro e W ⟨r,rfl,ho,J⟩;have T:=cq (cS ho);have N:=(S.gm J ho rfl rfl).SY (cK.iW ((S.gm J ho rfl rfl).s8 (k:=0) rfl)) (λ_=>rfl) rfl rfl;have S:=N;obtain⟨ra,rc,rfl⟩:=T.o)|(refine lh cX ?_;refine Az K3 ?_)|refine eR ?_|refine ey λW S=>?_
  have S2:=(S.Su rfl).Su rfl;have S3:=S2.SY (cK.iW (S2.s8 (k:=0) rfl)) (λ_=>rfl) rfl rfl;rw[show(ct 3 (c7 cz)).toList=gY [cz] from(oH cz).symm] at S3
  go_loopw [12,10,11] (λi u v wr=>∃j s' f E la lc aa ac,j<=a.length-1/\i=.int .i64 ((a.length:Int)-2-(j:Nat))/\u=.slice la f.length lc/\v=.slice aa E.length ac/\Hid (((qG k).take j).foldl iM (s,([cz],[cz],0))=(s',(f,E,0))/\a[a.length-1-j]?=some f.length/\eU f/\eU E/\E.length<=1+j*512/\
   St w (some D) [] [⟨w.heap.size,106,3,c7 cz⟩] [⟨106,3,.slice aa E.length ac,E.length,gY E⟩] (λB w=>(Bq P D I s' B w/\xL 3 1 (.slice ra a.length rc) a.length (pB a) B w)/\xL 106 3 (.slice la f.length lc) f.length (gY f) B w) wr)) (λi _ _ _=>(intOf i+1).toNat)
  case atStart=>exact⟨0,s,[cz],[cz],_,_,_,_,fN _,by simp,rfl,rfl,cq ⟨rfl,V.o,λq hq=>by rw[eV.1 hq];exact hr,λq hq=>by rw[eV.1 hq];exact hr,dK _,S3⟩⟩
  case round=>
   obtain⟨j,s',f,E,la,lc,aa,ac,hj,rfl,rfl,rfl,hS⟩:=hrel;by_cases c6:j<a.length-1
   . have b2:a.length-2-j<a.length:=cw;obtain⟨y,hy⟩:∃y,a[a.length-2-j]?=some y:=⟨_,iz b2⟩;have d4:y<=8*f.length:=X.o (a.length-2-j) y f.length hy (by rw[show a.length-2-j+1=a.length-1-j by omega];exact hS.o.2.1);have d3:y<=512:=a3.o y (kt hy);have c5:f.length<=512:=a3.o _ (kt hS.o.2.1);have hF:=cq hS.o.1;have b6:=cq hS.o.2.2.1;have Y:=cq hS.o.2.2.2.1;have b7:=hS.o.2.2.2.2.1;have S:=hS.o.2.2.2.2.2;obtain⟨sb,so,b9⟩:∃b o,ra=s_ b o:=by
      obtain⟨_,_,he,_,h2⟩:=du S.x.1.2.1
      grind
     subst b9;have K:((a.length:Int)-2-(j:Nat))=((a.length-2-j:Nat):Int):=cw;have p:=cq λW(h:xL 3 1 (.slice (s_ sb so) a.length rc) a.length (pB a) [] W)=>h.1.cellAt c2 (show(pB a)[a.length-2-j]?=some (.int .i64 y) from by unfold pB;rw[ql,hy];rfl);have C2:=cq λW h R=>Nr P D I s' f (.slice la f.length lc) cw b6.o y cw W h R;have d:iM (s',(f,E,0)) y=if(fj s' f y).2.2≠0 then((fj s' f y).1,([],[],(fj s' f y).2.2)) else((fj s' f y).1,((fj s' f y).2.1,E++(fj s' f y).2.1,0)):=by unfold iM;simp
     have a6:(qG k)[j]?=some y:=by rw[ZG (by rw[OH,l];omega),l];exact hy
     rcases hg:fj s' f y with⟨s1,m,c⟩;rw[hg] at C2 d;simp only at C2 d;have a2:=cq a6;clear a6;obtain⟨ix,a7⟩:=c8 (a.length-2-j);rw[a7] at K p b2;rw[K];have d5:(ix:Int)<(a.length:Int):=cw;by_cases hc:c=0
     . subst hc;rw[cM dU] at d;have b5:=cq ((uG hF.o a2.o).trans d);have b1:m.length=y:=by rw[DU hg];omega
       have b4:=cq b1;have c9:m.length<=512:=cw;clear d b1
       go_wp2_with first|refine yi (p.o _ ⟨S.x.1.2.1,λ_ _ _ h=>absurd h iS⟩) ?_|(refine(C2.o _ S.x.1.1 S.x.2.1).mono ?_;rintro e W ⟨r,rfl,ho,M,hp,O⟩;have T:=cq (cS ho);have a4:=cq M;have N:=S.sf O (λD e=>e) dU ((dw P D I s1).still (eI 3 1 (.slice (s_ sb so) a.length rc) a.length (pB a) rfl rfl)) (λB h=>⟨hp,abN h.1.2 O rfl rfl⟩) ho rfl rfl;clear M;have S:=N.SY (cK.iW (N.s8 (k:=0) rfl)) (λ_=>rfl) rfl rfl;obtain⟨ma,mc,rfl⟩:=T.o)|(refine EP S 0 rfl (by':=24) rfl rfl S.x.2.1 fU (nG _) Br wR ?_;intro v' W S)
       have b3:Hid (∃va vc,v'=.slice va (E.length+m.length) vc):=cq (cS S.o0);go_roundw
       case rel=>
        obtain⟨va,vc,rfl⟩:=b3.o;refine⟨j+1,s1,m,E++m,ma,mc,va,vc,cw,fK (Value.int .i64) cw,rfl,by rw[ik],cq ⟨b5.o,?_,a4.o,λq hq=>(fL.1 hq).elim (Y.o q) (a4.o q),by rw[ik];omega,?_⟩⟩
        . rw[show a.length-1-(j+1)=a.length-2-j by omega,hy,b4.o]
        . rw[ik,im];exact S
       case measure=>simp[intOf]
     . have g1:(c !=0)=true:=eO.2 hc;rw[cL hc] at d;have Q:dP s cz k=(s1,([],[],c)):=by
        rw[C.o];have h9:(qG k).foldl iM (s,([cz],[cz],0))=(s1,([],[],c)):=EX (k:=j+1) ((uG hF.o a2.o).trans d) (Nu hc);rw[h9];simp[hc]
       have a5:=cq Q;have HC:=cq hc;clear d Q hc
       go_wp2_with first|refine yi (p.o _ ⟨S.x.1.2.1,λ_ _ _ h=>absurd h iS⟩) ?_|(refine(C2.o _ S.x.1.1 S.x.2.1).mono ?_;rintro e W ⟨r,rfl,ho,M,hp,O⟩;replace S:=S.call O (λD e=>e) dU (dw P D I s1) (λ_ _=>hp);clear M)
       go_ret3;rw[a5.o];exact⟨_,_,rfl,F7.nil _ _,gg.nil _ _,dy,S.x,S.fr⟩
   . obtain rfl:j=a.length-1:=cw;have hF:=hS.o.1;rw[nz (by rw[OH,l];omega)] at hF;have a8:f.length=s0:=by
      have h1:=hS.o.2.1;rw[show a.length-1-(a.length-1)=0 by omega,U.o] at h1;exact(ve h1).symm
     have Y:=cq hS.o.2.2.2.1;have b7:=hS.o.2.2.2.2.1;have K:((a.length:Int)-2-((a.length-1:Nat):Int))= -1:=cw;have C3:=cq λW h R=>Qu P D I s' f (.slice la f.length lc) cw hS.o.2.2.1 k cw W h R;have S:=hS.o.2.2.2.2.2;have c3:=cq a8;clear a8;have g:dP s cz k=if(eo s' f k).2.2≠0 then((eo s' f k).1,([],[],(eo s' f k).2.2)) else((eo s' f k).1,((eo s' f k).2.1,E,0)):=by
      rw[C.o,hF];simp
     rcases hg:eo s' f k with⟨s1,tx,c⟩;rw[hg] at C3 g;simp only at C3 g;rw[K];by_cases hc:c=0
     . subst hc;rw[cM dU] at g;have F:=cq g;clear g
       go_wp2_with (refine(C3.o _ S.x.1.1 S.x.2.1).mono ?_;rintro e W ⟨r,rfl,ho,hp,O⟩;have HO:=cq (And.intro ho.sl (And.intro (λ(h:0<tx.length)b J=>gO S.fr.size (ho.new h b J)) ho.lt));replace S:=S.call O (λD e=>e) dU (dw P D I s1) (λ_ _=>hp))
       go_ret3;rw[F.o];exact⟨_,_,rfl,⟨HO.o.1,HO.o.2.1,HO.o.2.2⟩,S.o0,Y.o,S.x,S.fr⟩
     . have g1:(c !=0)=true:=eO.2 hc;rw[cL hc] at g;have F:=cq g;have HC:=cq hc;clear g hc
       go_wp2_with (refine(C3.o _ S.x.1.1 S.x.2.1).mono ?_;rintro e W ⟨r,rfl,ho,hp,O⟩;replace S:=S.call O (λD e=>e) dU (dw P D I s1) (λ_ _=>hp))
       go_ret3;rw[F.o];exact⟨_,_,rfl,F7.nil _ _,gg.nil _ _,dy,S.x,S.fr⟩
def iX(s:Pl)(a:cD):Pl×(cD×List cy×Int):=
 match mU (a.take 16) with
 |none=>(s,([],[],51))
 |some cz=>dP s cz ((iH (a.drop 16):Nat):Int)
theorem aib{bs:cD}(h:bs.length=4):qQ [4] bs=some [iH bs]:=by unfold qQ;rw[cL ⟨by decide,by rw[h];rfl⟩];have:nZ [4] bs=[iH (bs.take 4)]:=rfl;grind
theorem agL{bs:cD}(h:bs.length=4)(a:∀x∈bs,x<256):iH bs<4294967296:=by grind[Di]
theorem To(h:w.ownsRow base e z v (n+1) xs):∃g c,v=.slice (some ⟨g,0,none⟩) (n+1) c:=by grind[ownsRow_succ]
def Jb(P D G:Nat)(s:Pl)(a:cD)(T:a.length=20)(k:∀x∈a,x<256)(v:cI)(w:cB)(h:ej w P D G s)(R:cK w 5 1 v 20 (dH a)):
 CP_ 149 #[.pointer (some ⟨P,0,none⟩),v] w λe w'=>∃r q,e=.returned (.tuple #[r,q,.int .i64 (iX s a).2.2.2])/\F7 w' w.heap.size r (iX s a).2.1/\gg w' w.heap.size q (iX s a).2.2.1/\eU (iX s a).2.2.1/\ej w' P D G (iX s a).1/\Fr (some D) [] w w':=by
 obtain⟨ao,cap,rfl,Z,Q⟩:=du R;have RL:=cq R;have S:=St.start w (some D) [] (dw P D G s) h;have g:=cq λW u U hc=>vh u (a.take 16) W U hc;have C:=cq λv u W hv U hc=>II v u [4] (a.drop 16) jR W hv U hc;have t:(a.drop 16).length=4:=by rw[r8,T]
 have h4:=agL t (λx l=>k x (mR l));rw[aib t] at C;have H:fp 21 (some [iH (a.drop 16)])=0:=rfl;rw[H] at C;simp only[ku] at C;have Y:=cq (show cK w 5 1 (.slice ao 16 cap) 16 (dH (a.take 16)) from by have B:=cK.take R (i:=16) cw;rwa [q7,sk] at B);obtain⟨da,E⟩:=xm (kx ao cap 16 1);have M:=cq (show cK w 5 1 (.slice da 4 (cap-16)) 4 (dH (a.drop 16)) from by have B:=cK.Bj R (i:=16) cw;rw[q7,vz,<-E.o] at B;exact B);have p:=cq k;have a2:=cq T;have O:=cq (show∀y∈dh [4],(Lit.int .i64 y).wf=true by decide);obtain⟨o,z⟩:=c8 (iH (a.drop 16));rw[z] at C h4;have c:iX s a=match mU (a.take 16) with|none=>(s,([],[],51))|some cz=>dP s cz ((o:Nat):Int):=by unfold iX;rw[z]
 have d:∀q,mU (a.take 16)=some q->cY q:=λq J=>vu (λx l=>k x (lu l)) J;clear R k T h t H z Q;go_enter func149,ntmps149;cases n:mU (a.take 16) with
 |none=>rw[n] at g c;have f:fp 51 (none:Option cy)=51:=rfl;rw[f] at g;obtain⟨A,m⟩:=eW (ct 3 (c7 ((none:Option cy).getD cH)));rw[cP m] at g;have L:=cq m;have F:=cq c;clear c f n d m;go_wp2_with (first|refine SJ tz ae ae (y:=16) cw ?_|refine je S (g.o _ _ (Y.o.fr S.fr (.inr rfl) rfl |>.tr (λx l=>p.o x (lu l))) ⟨_,_,_,rfl,cw⟩) λW S=>?_|refine nO S rfl rfl L.o eN rfl mB (df _) λW S=>?_);go_ret3;rw[F.o];exact aj8
 |some cz=>
  rw[n] at g c;have f:fp 51 (some cz)=0:=rfl;rw[f] at g;simp only[ku] at g c;obtain⟨A,m⟩:=eW (ct 3 (c7 cz));rw[cP m] at g;have V:=cq λW h=>wI P D G s cz (d cz n) ((o:Nat):Int) W h;rw[cP m,<-c] at V;have L:=cq m;have a1:IntKind.i64.wrap ((20:Int)-16)=4:=by decide
  have a3:IntKind.i64.wrap ((o:Nat):Int)=((o:Nat):Int):=j0 _ cw;clear c f n d m;go_wp2_with (first|refine SJ tz ae ae (y:=16) cw ?_|refine je S (g.o _ _ (Y.o.fr S.fr (.inr rfl) rfl |>.tr (λx l=>p.o x (lu l))) ⟨_,_,_,rfl,cw⟩) λW S=>?_|refine nO S rfl rfl L.o eN rfl mB (df _) λW S=>?_|refine lK S .i64 (dh [4]) oW td cw cw rfl rfl rfl λW S=>?_|(refine xU tz ae ae (y:=16) cw ?_;rw[<-E.o])|(refine ag (C.o _ _ _ (dR.row S.k0 ae (show(1:Nat)<=_ by omega) O.o) (M.o.fr S.fr au ae |>.tr (λx l=>p.o x (mR l))) ⟨_,_,_,ae,cw⟩) λr W⟨ho,a⟩=>?_;obtain⟨ng,nc,rfl⟩:=To ho;replace S:=S.gm a ho ae ae;clear a));replace S:St w (some D) [] _ [⟨82,1,.slice (s_ ng 0) 1 nc,1,JI [o]⟩] _ _:=S;refine dL S cX λW S=>?_;refine cJ 0 _ ?_;refine cJ 1 (.agg A) ?_;refine cJ 2 _ ?_;refine cJ 3 (cZ ng 0) ?_;refine fW 4 (.int .u64 o) ae (fR (λw h=>by obtain⟨_,S⟩:=h;have B:=S.q0.cellAt (j:=0) (u:=.int .u64 o) cw ae;exact B) ae fg) ?_;refine cJ 5 (.int .i64 o) ?_;refine jQ 6 λK hK=>?_;go_wp2_with fail;refine(V.o _ S.x).mono ?_;rintro e W ⟨r,q,rfl,ho,J,I,n,hf⟩;have N:=cq (And.intro ho.sl (And.intro (λh b a=>gO S.fr.size (ho.new h b a)) ho.lt));have X:=cq (And.intro (Ar J S.fr.size) I);replace S:=S.call hf ar dU (dw P D G _) (λ_ _=>n);clear n J I;refine fC hK ?_;refine cJ 7 (r) ?_;refine cJ 8 (q) ?_;refine cJ 9 (.int .i64 (iX s a).2.2.2) ?_;refine cJ 10 _ ?_;refine cJ 11 _ ?_;refine cJ 12 _ ?_;refine pz ?_;go_wp2;go_ret3;exact⟨_,_,ae,⟨N.o.1,N.o.2.1,N.o.2.2⟩,X.o.1,X.o.2,S.x,S.fr⟩
attribute [local go_sem] Oper.semAt_some
def qH(bs:cD)(k:Nat):cD:=(bs.drop (k*128)).take 128
def gH(dO:cD)(a:Pl×(List cy×Int))(part:cD):Pl×(List cy×Int):=
 if a.2.2≠0 then a else
 if(dY a.1 (dO.getD a.2.1.length 0:Nat) part).2.2≠0 then((dY a.1 (dO.getD a.2.1.length 0:Nat) part).1,([],(dY a.1 (dO.getD a.2.1.length 0:Nat) part).2.2))
 else((dY a.1 (dO.getD a.2.1.length 0:Nat) part).1,(a.2.1++[(dY a.1 (dO.getD a.2.1.length 0:Nat) part).2.1],0))
def gh(s:Pl)(bs dO:cD):Pl×(List cy×Int):=((finRange (eJ bs.length 128)).map λk=>qH bs k.val).foldl (gH dO) (s,([],0))
theorem F8{dO:cD}{s:Pl}{c:Int}(hc:c≠0)(q:cD):gH dO (s,([],c)) q=(s,([],c)):=by grind[gH]
theorem cK.part{c o:Nat}(h:cK w e z (.slice (some ⟨b,o,none⟩) n c) n xs)(f:i+y<=n):cK w e z (.slice (some ⟨b,o+i*z,none⟩) y y) y ((xs.drop (i*z)).take (y*z)):=by obtain⟨g,d,cap,a,j,k,l⟩:=h;simp only[kM] at a;obtain⟨rfl,-,rfl⟩:=a;have p:(i+y)*z<=n*z:=GQ _ f;have m:(i+y)*z=i*z+y*z:=Nat.add_mul _ _ _;refine⟨by grind,_,y,ae,dK _,cw,λq=>?_⟩;grind
theorem acv{o c:Nat}{bs:cD}(h:kZ w 5 (.slice (some ⟨b,o,none⟩) bs.length c) bs)(d:k<eJ bs.length 128):kZ w 5 (sq b o 1 bs.length 128 k) (qH bs k):=by
 have f:=(qZ (m:=bs.length) (n:=128) cw).1 d;have g:(qH bs k).length=min 128 (bs.length-k*128):=by grind[qH]
 refine⟨?_,λx j=>h.2 x (mR (lu j))⟩;have a:=h.1.part (i:=k*128) (y:=min 128 (bs.length-k*128)) cw;unfold sq;rw[g];rw[q7,<-map_drop,<-map_take] at a;have e:qH bs k=(bs.drop (k*128)).take (min 128 (bs.length-k*128)*1):=by simp_all[qH]
 grind
theorem sw(s:Pl)(i:Int)(b:cD):(dY s i b).1.dv.ops<=s.dv.ops+1:=by unfold dY;split;grind;split;exact yF _ _ _;grind
theorem zf(h:gU s.cA)(i:Int)(b:cD)(a:∀x∈b,x<256):cY (dY s i b).2.1:=by unfold dY;split;exact dA;next hl=>split;(next hi=>unfold jE;simp only;split;exact⟨by grind,h,BR _ (Fz cw a).2⟩;exact dA);exact dA
def Nv{bs:cD}{p:List (Fin (eJ bs.length 128))}(a:p<+:finRange (eJ bs.length 128))(h:(p.map λk=>qH bs k.val).foldl (gH dO) (s,([],0))=(s1,([],c)))(hc:c≠0):gh s bs dO=(s1,([],c)):=by obtain⟨r,b⟩:=a;unfold gh;rw[<-b,mI,Ab,h,Dk (F8 hc)]
def acw:kB prog 68:=⟨⟨_,underlying68,ae⟩,cX⟩
def OI:kB prog 27:=⟨⟨_,underlying27,ae⟩,cX⟩
instance in82e9c :pS 27:=⟨OI⟩
def acx:kB prog 81:=⟨⟨_,oW,ae⟩,cX⟩
structure acy where
 a:Option Addr
 c:Nat
 s:Pl
 oq:List cy
structure aeX where
 y:acy
 code:Int
theorem Tp(P D I:Nat)(s:Pl)(d3:s.dv.ops<=999000000)(bs:cD)(d6:bs.length<=100000)(v:cI)(dO:cD)(av:cI)(d4:eJ bs.length 128<=dO.length)(d5:dO.length<=100000)(c1:∀x∈dO,x<=1000000)(w:cB)(h:ej w P D I s)(R:kZ w 5 v bs)(RA:cK w 3 1 av dO.length (pB dO)):
 CallsIn Fence.wide 5 prog 279 #[.pointer (some ⟨P,0,none⟩),v,av] w λe w'=>∃r,e=.returned (.tuple #[r,.int .i64 (gh s bs dO).2.2])/\gg w' w.heap.size r (gh s bs dO).2.1/\eU (gh s bs dO).2.1/\ej w' P D I (gh s bs dO).1/\Fr (some D) [] w w':=by
 obtain⟨bo,O,rfl,a2,d7⟩:=du R.1;obtain⟨aa,p,rfl,b9,b8⟩:=du RA;have HR:=cq R;have b7:=cq RA;have S:=St.start w (some D) [] (dw P D I s) h;have hN:eJ bs.length 128<=100000:=cw;clear R RA h;refine callsIn_of_wp_marks func279 ae gI ?_ ae;simp only[ntmps279,zm,kr,r7,reduceAdd,reduceSub,zn,zp,tU,tV,ot,sL]
 gi_upto_region 0 with fail
 refine jd mB cX tM ?_
 go_wp2_with first|refine BX S (v:=cZ P 0) rfl rfl rfl λW3 S=>?_|refine BX S (v:=.slice aa dO.length p) rfl rfl rfl λW5 S=>?_|refine zC S zeroValue107 rfl rfl λW6 S=>?_|refine zC S zeroValue27 rfl rfl λW7 S=>?_
 gi_upto_region 1 with fail
 refine jd mB cX tM ?_
 go_wp2_with refine ey λW S=>?_
 gi_upto_region 2 with fail
 refine jd mB cX tM ?_
 go_wp2_with (refine ah (VU bo bs.length O _) λW2 hW=>?_;have HB:=cq (Ck hW);clear hW)
 gi_wp2
 replace S:St w (some D) [] [⟨W7.heap.size,107,1,λ_=>.slice none 0 0⟩,⟨W6.heap.size,27,1,λ_=>.int .i64 0⟩,⟨W5.heap.size,107,1,λ_=>.slice none 0 0⟩,⟨W3.heap.size,81,1,λ_=>.slice aa dO.length p⟩,⟨w.heap.size,68,1,λ_=>cZ P 0⟩] [] (Bq P D I s) W:=S;obtain⟨hb,Q,a7,b4,b3,d8⟩:=HB.o;obtain⟨l,c6⟩:=c8 W.heap.size;rw[c6] at Q a7 b4 b3|-;have c5:∀k∈ [l,l+1],(W.heap.size<=k∨k<w.heap.size)/\∃t,gx W2 k=some t/\kO t=false/\fT t=false:=by
  intro k E;simp only[ib,iS,sM] at E;rcases E with rfl|rfl
  . exact⟨.inl cw,_,b4,ae,ae⟩
  . exact⟨.inl cw,_,b3,ae,ae⟩
 replace S:=(S.Hi 106 3 ae ae).SU hb c5;have c3:=S.x.2;have b5:w.heap.size<=W2.heap.size:=S.fr.size;have f:∀s',kK (some D) (λB w=>Bq P D I s' B w/\Rr [l,l+1] B w):=λs'=>(dw P D I s').still (jM _);have F:∀s',kQ (λB w=>Bq P D I s' B w/\Rr [l,l+1] B w):=λs'=>(kQ.pl P D I s').and (kQ.av _);obtain⟨b0,o0,T⟩:∃b o,0<bs.length->bo=s_ b o:=by
  grind
 refine wpIn_rangeFunc_ownF ae cw (gf:=292) (lb:=#[cZ l 0,cZ (l+1) 0]) ae gI (enters_of func292 cX ae)
  (Qo 4 l (l+1) bs.length O bo b0 o0 T a2 cw W2 Q a7) me.trans (me.wA λk E=>let⟨_,h1,_⟩:=(c3 k E).2;gr h1) (fO _ _) (λ_=>ae)
  (λj N=>∃y:acy,Hid ((j.map λk=>qH bs k.val).foldl (gH dO) (s,([],0))=(y.s,(y.oq,0))/\y.oq.length=j.length/\y.s.dv.ops<=s.dv.ops+j.length/\eU y.oq)/\St w (some D) [] [⟨W7.heap.size,107,1,λ_=>.slice y.a y.oq.length y.c⟩,⟨W6.heap.size,27,1,λ_=>.int .i64 0⟩,⟨W5.heap.size,107,1,λ_=>.slice none 0 0⟩,⟨W3.heap.size,81,1,λ_=>.slice aa dO.length p⟩,⟨w.heap.size,68,1,λ_=>cZ P 0⟩] [⟨106,3,.slice y.a y.oq.length y.c,y.oq.length,gY y.oq⟩] (λB w=>Bq P D I y.s B w/\Rr [l,l+1] B w) N)
  (λc j N=>∃y:aeX,Hid (c=.ret/\(j.map λk=>qH bs k.val).foldl (gH dO) (s,([],0))=(y.y.s,([],y.code))/\y.code≠0)/\St w (some D) [] [⟨W7.heap.size,107,1,λ_=>.slice y.y.a y.y.oq.length y.y.c⟩,⟨W6.heap.size,27,1,λ_=>.int .i64 y.code⟩,⟨W5.heap.size,107,1,λ_=>.slice none 0 0⟩,⟨W3.heap.size,81,1,λ_=>.slice aa dO.length p⟩,⟨w.heap.size,68,1,λ_=>cZ P 0⟩] [] (λB w=>Bq P D I y.y.s B w/\Rr [l,l+1] B w) N)
  (qB b5 _ _ _ _ λ_(y:acy)=>F y.s) (λc=>qB b5 _ _ _ _ λ_(y:aeX)=>F y.y.s)
  ⟨⟨none,0,s,[]⟩,cq ⟨ae,ae,dK _,dy⟩,S⟩ ?a1 ?assign ?body ?done ?stop
 case assign=>
  intro lp z N K C
  gi_wp2
  exact C
 case body=>
  clear S;rintro lp j z W0 ⟨⟨ya,yc,s',a⟩,J,S⟩ U;simp only at J S;obtain⟨G,M,a8,L⟩:=J.o;replace S:=S.fV;obtain⟨ab,ao,rfl⟩:=b8 cw;have e1:=(qZ (m:=bs.length) (n:=128) cw).1 z.isLt;obtain rfl:=T cw;obtain⟨u,Z⟩:∃u,dO[a.length]?=some u:=⟨_,iz cw⟩;have a6:dO.getD a.length 0=u:=by grind
  have d1:=c1 u (kt Z);have a5:=cq λW(h:Fr (some D) [] w W)=>(b7.o.fr h au ae).cellAt (show 0<dO.length by omega) (show(pB dO)[a.length]?=some (.int .i64 u) from by unfold pB;rw[ql,Z];rfl);obtain⟨pv,b2⟩:=c8 (sq b0 o0 1 bs.length 128 z.val);have V:=cq λW(h:Fr (some D) [] w W)=>(show kZ W 5 pv (qH bs z.val) from by rw[<-b2];exact acv (HR.o.fr h au ae) z.isLt);have d:gH dO (s',(a,0)) (qH bs z.val)=if(dY s' (u:Nat) (qH bs z.val)).2.2≠0 then((dY s' (u:Nat) (qH bs z.val)).1,([],(dY s' (u:Nat) (qH bs z.val)).2.2)) else((dY s' (u:Nat) (qH bs z.val)).1,(a++[(dY s' (u:Nat) (qH bs z.val)).2.1],0)):=by unfold gH;simp only[a6];simp
  have c4:∀x∈qH bs z.val,x<256:=λx hx=>HR.o.2 x (mR (lu hx));have b1:=zf S.x.1.1.ok.1 (u:Nat) (qH bs z.val) c4;have a9:=sw s' (u:Nat) (qH bs z.val);have C1:=cq λW h hv=>y8 P D I s' cw (u:Nat) aS 5 pv (qH bs z.val) W h hv;rcases hg:dY s' (u:Nat) (qH bs z.val) with⟨s1,q,c⟩;rw[hg] at C1 d b1 a9;simp only at C1 d b1 a9;obtain⟨A,hA⟩:=eW (ct 3 (c7 q));rw[cP hA] at C1;have HA:=cq hA;have HF:=cq G;have Y:=cq L;have b6:=cq M;have d2:(a.length:Int)<(dO.length:Int):=cw;have d9:a.length<100000:=cw;clear hg hA L Z a6 J M;rw[b2]
  gi_upto_region 4 with fail
  refine yW mB S cX cX tM λW S=>?_;refine fW 0 (cZ P 0) ae (sh S 4 (λ_ h=>h) ae 0 ae pR ae acw) ?_;refine fW 1 (.slice (s_ ab ao) dO.length p) ae (sh S 3 (λ_ h=>h) ae 0 ae pR ae acx) ?_;refine cJ 2 (.slice ya a.length yc) ?_;refine cJ 3 (.int .i64 a.length) ?_;refine cJ 4 (cZ ab (ao+a.length)) ?_;refine fW 5 (.int .i64 u) ae (fR (λw h=>by obtain⟨_,S⟩:=h;exact a5.o _ S.fr) ae BU) ?_;refine cJ 6 _ ?_
  repeat' first|refine Rp ?_|refine mi 8 _ (hS:=⟨_,S.pop⟩) ?_|refine mi 9 (.agg A) (hS:=⟨_,S.pop⟩) ?_|refine mi 10 (.int .i64 c) (hS:=⟨_,S.pop⟩) ?_|refine mi 13 _ (hS:=⟨_,S.pop⟩) ?_|refine mi 8 _ ?_|refine mi 9 (.agg A) ?_|refine mi 10 (.int .i64 c) ?_|refine zX 7 11 (λK C=>?_) λK C=>?_|refine oJ 7 λK C=>?_|refine oJ 12 λK C=>?_|refine oJ 11 λK C=>?_|(refine FD S vV gQ ae λW S=>?_;refine C.out _ _ ⟨_,S.pop⟩ λ_=>?_;try simp only[MH])|(go_wp2_with fail;refine ah (C1.o _ S.x.1.1 (V.o _ S.fr)) λN⟨hp,G⟩=>?_;replace S:=S.call G ar dU (kK.fV [l,l+1] W0 (f s1)) (λB h=>⟨⟨hp,(jM _).fr h.1.2 G⟩,FP h.2 G⟩);refine C.out _ _ ⟨_,S.pop⟩ λ_=>?_;try simp only[MH])|(refine ju S 0 ae ae ae HA.o eN (df _) λW S=>?_;refine C.out _ _ ⟨_,S.pop⟩ λ_=>?_;try simp only[MH])|(go_wp2_with fail;refine ah (C1.o _ S.x.1.1 (V.o _ S.fr)) λN⟨hp,G⟩=>?_;replace S:=S.call G ar dU (kK.fV [l,l+1] W0 (f s1)) (λB h=>⟨⟨hp,(jM _).fr h.1.2 G⟩,FP h.2 G⟩);refine fC C ?_)
  all_goals(
  refine cq ?_;by_cases hc:c=0
  . subst hc;rw[cM dU] at d;have HN:=cq (show((j++[z]).map λk=>qH bs k.val).foldl (gH dO) (s,([],0))=(s1,(a++[q],0)) from by rw[mI,Ab,HF.o];exact d);clear d
    gi_upto_region 7 with fail
    gi_upto_region 7 with fail
    refine jd mB cX tM ?_
    go_wp2_with first|(first|refine jl 29 107 8 S 1 0 (.slice ya a.length yc) ?_)|refine rK S 0 rfl 0 rfl rfl rfl rfl fU (df _) Br wR λg9 c9 W S=>?_|refine tR S 2 rfl 0 pR rfl rfl rfl nk λW S=>?_|refine eR ?_|refine ey λW S=>?_
    gi_wp2
    have E:=S.kept (f s1);have S9:=E.2.2.pop.pop;refine⟨E.1,E.2.1,⟨some ⟨g9,0,none⟩,c9,s1,a++[q]⟩,cq ⟨HN.o,by rw[ik,ik,b6.o];rfl,by grind,λr hr=>(fL.1 hr).elim (Y.o r) (λh=>by grind)⟩,?_⟩;rw[ik,im,oH];exact S9.wv (k:=0) ae (g:=λ_=>.slice (s_ g9 0) (a.length+1) c9) λi hi=>by have hi:i<1:=hi;obtain rfl:i=0:=cw;rfl
  . have g1:(c !=0)=true:=eO.2 hc;rw[cL hc] at d;have HN:=cq (show((j++[z]).map λk=>qH bs k.val).foldl (gH dO) (s,([],0))=(s1,([],c)) from by rw[mI,Ab,HF.o];exact d);have HC:=cq hc;clear d hc
    gi_upto_region 6 with fail
    gi_upto_region 6 with fail
    refine jd mB cX tM ?_
    go_wp2_with first|refine tR S 3 rfl 0 (v:=.slice none 0 0) pR rfl rfl rfl nk λW S=>?_|refine tR S 2 rfl 0 pR rfl rfl rfl OI λW S=>?_
    gi_wp2
    have E:=S.kept (f s1);have S9:=E.2.2.pop.M6;refine⟨E.1,⟨⟨ya,yc,s1,a⟩,c⟩,cq ⟨ae,HN.o,HC.o⟩,?_⟩;exact(S9.wv (k:=1) ae (g:=λ_=>.int .i64 c) λi hi=>by have hi:i<1:=hi;obtain rfl:i=0:=cw;rfl).wv (k:=2) ae (g:=λ_=>.slice none 0 0) λi hi=>by grind
  )
 case done=>
  clear S;rintro D2 ys W0 hD rfl ⟨⟨ya,yc,s',a⟩,J,S⟩ C;simp only at J S;obtain⟨G,M,a8,L⟩:=J.o;have X:gh s bs dO=(s',(a,0)):=G;have H:=cq X;have Y:=cq L;clear M a8 L J X;replace S:=S.fV
  gi_upto_region 8 with fail
  gi_upto_region 8 with fail
  refine jd mB cX tM ?_
  go_wp2_with first|refine jl 33 107 8 S 0 0 (.slice ya a.length yc) ?_|refine tR S 2 rfl 0 pR rfl rfl rfl nk λW S=>?_|refine tR S 1 rfl 0 (v:=.int .i64 0) pR rfl rfl rfl OI λW S=>?_
  gi_wp2
  have E:=S.kept (f s');refine Cl E.2.2 (F s') cw (E.1.same D2 _ C ae) λN S=>?_;have a3:=S.cell (k:=2) ae (i:=0) yn;have a4:=S.cell (k:=1) ae (i:=0) yn;refine⟨.tuple #[.slice ya a.length yc,.int .i64 0],by simp[results,f279,go_sem,a3,a4],?_⟩;rw[H.o];exact⟨_,ae,S.o0,Y.o,S.x.1,S.fr⟩
 case stop=>
  clear S;rintro D2 cc j W0 hD U ⟨⟨⟨ya,yc,s1,a⟩,c2⟩,J,S⟩ C;simp only at J S;obtain⟨rfl,G,hc⟩:=J.o;have H:=cq (Nv U G hc);clear J
  gi_wp2
  refine Cl S (F s1) cw C λN S=>?_;have a3:=S.cell (k:=2) ae (i:=0) yn;have a4:=S.cell (k:=1) ae (i:=0) yn;refine⟨.tuple #[.slice none 0 0,.int .i64 c2],by simp[results,f279,go_sem,a3,a4],?_⟩;rw[H.o];exact⟨_,ae,gg.nil _ _,dy,S.x.1,S.fr⟩
def Qv(P D b:Nat)(s:Pl)(a:s.dv.ops<=999000000)(bs:cD)(i:bs.length<=100000)(v:cI)(dO:cD)(c:cI)(d:eJ bs.length 128<=dO.length)(f:dO.length<=100000)(g:∀x∈dO,x<=1000000)(w:cB)(h:ej w P D b s)(R:kZ w 5 v bs)(j:cK w 3 1 c dO.length (pB dO)):
 CP_ 279 #[.pointer (some ⟨P,0,none⟩),v,c] w λe w'=>∃r,e=.returned (.tuple #[r,.int .i64 (gh s bs dO).2.2])/\gg w' w.heap.size r (gh s bs dO).2.1/\eU (gh s bs dO).2.1/\ej w' P D b (gh s bs dO).1/\Fr (some D) [] w w':=
 r9.1 (Tp P D b s a bs i v dO c d f g w h R j)
attribute [local go_sem] Oper.semAt_some
def nU(ps:List cy)(k:Nat):List cy:=(ps.drop (k*8)).take 8
def gD(dO:cD)(a:Pl×(List cy×Int))(part:List cy):Pl×(List cy×Int):=
 if a.2.2≠0 then a else
 match lZ (λi=>part.getD i cH) with
 |none=>(a.1,([],51))
 |some sec=>
  if(dY a.1 (dO.getD a.2.1.length 0:Nat) sec).2.2≠0 then((dY a.1 (dO.getD a.2.1.length 0:Nat) sec).1,([],(dY a.1 (dO.getD a.2.1.length 0:Nat) sec).2.2))
  else((dY a.1 (dO.getD a.2.1.length 0:Nat) sec).1,(a.2.1++[(dY a.1 (dO.getD a.2.1.length 0:Nat) sec).2.1],0))
def dW(s:Pl)(ps:List cy)(dO:cD):Pl×(List cy×Int):=((finRange (eJ ps.length 8)).map λk=>nU ps k.val).foldl (gD dO) (s,([],0))
theorem Nw(hc:c≠0)(q:List cy):gD dO (s,([],c)) q=(s,([],c)):=by grind[gD]
def Lx{bs:List cy}{p:List (Fin (eJ bs.length 8))}(a:p<+:finRange (eJ bs.length 8))(h:(p.map λk=>nU bs k.val).foldl (gD dO) (s,([],0))=(s1,([],c)))(hc:c≠0):dW s bs dO=(s1,([],c)):=by obtain⟨r,b⟩:=a;unfold dW;rw[<-b,mI,Ab,h,Dk (Nw hc)]
theorem ZI{bs:List cy}(a:k<eJ bs.length 8):0<(nU bs k).length/\(nU bs k).length<=8:=by grind[qZ,nU]
theorem V3{o:Nat}{bs:List cy}(d:k<eJ bs.length 8):∃a c,sq b o 3 bs.length 8 k=.slice (some ⟨a,c,none⟩) (nU bs k).length (nU bs k).length:=by simp_all[nU,sq]
def Tq{bs:List cy}(h:eU bs)(k i:Nat):cY ((nU bs k).getD i cH):=by rw[tY];cases a:(nU bs k)[i]? with|none=>exact dA|some q=>exact h q (mR (lu (kt a)))
theorem acz{o c:Nat}{bs:List cy}(h:ko w (.slice (some ⟨b,o,none⟩) bs.length c) bs)(d:k<eJ bs.length 8):ko w (sq b o 3 bs.length 8 k) (nU bs k):=by
 have e:=(qZ (m:=bs.length) (n:=8) cw).1 d;have f:(nU bs k).length=min 8 (bs.length-k*8):=by grind[nU]
 have a:=cK.part (show cK w 106 3 _ bs.length (gY bs) from h) (i:=k*8) (y:=min 8 (bs.length-k*8)) cw;unfold ko sq;rw[f];rw[De,Dd] at a;grind[nU]
def Tr(b:Nat)(W:cB):(Instr.sliceAt 191 (.pointer (some ⟨b,0,none⟩)) none none none).run prog W=.ok (.slice (some ⟨b,0,none⟩) 8 8) W:=by rfl
theorem Ts(d:l.length<=8):((ct 24 (dX λ_=>cH)).toList.take 0++gY l++(ct 24 (dX λ_=>cH)).toList.drop (0+(gY l).length)).toArray=ct 24 (dX λi=>l.getD i cH):=by apply xb;intro j;rw[cU];simp only[take_zero,ot,Kc,ou];rw[Kg];by_cases h:j<(gY l).length;rw[cL h];rw[xK] at h;have c:j/3<l.length:=cw;have b:=jK l c (A:=ct 3 (c7 l[j/3])) ae (j%3) cw;rw[show j/3*3+j%3=j by omega,cU,cL cw] at b;rw[b,cL cw];grind[dX];rw[cM h,getElem?_drop,Nat.add_sub_cancel' cw,mj (xs:=ct 24 _),cU];rw[xK] at h;by_cases a:j<24;rw[cL a,cL a];grind[dX];grind
theorem agM{a:Act}{l:cD}(S:St w0 d l L O X w)(k:Nat){f g c:Nat}(r:L[k]?=some ⟨b,191,24,dX λ_=>cH⟩)(R:ko w (.slice (some ⟨f,g,none⟩) ps.length c) ps)(s:0<ps.length)(B:ps.length<=8)(D:P.underlying 107=some (.slice 106))(m:(P.info? 106).map (·.size)=some 3)(A:a.eval (.tmp x)=.slice (some ⟨b,0,none⟩) 8 8)(C:a.eval (.tmp y)=.slice (some ⟨f,g,none⟩) ps.length c)(h:∀W,St w0 d l (L.set k ⟨b,191,24,dX λi=>ps.getD i cH⟩) O X W->wpList P ops Q rest (a.put o (goInt ps.length)) W):
 wpList P ops Q (⟨o,.call {callee:=.builtin .copy,args:=#[.tmp x,.tmp y],argTypes:=#[107,107]},t2,p,af,none⟩::rest) a w:=by
 obtain⟨t,ao,F,q,I,J,v⟩:=R;obtain⟨E,o',G,H,rfl,M,hc⟩:=v s;simp only[kM,xk,Addr.mk.injEq] at q;obtain⟨⟨rfl,rfl,-⟩,-,rfl⟩:=q;have e:=DI (P:=P) w 107 107 t2 106 b 0 8 8 ⟨f,g,none⟩ ps.length c (ct 24 (dX λ_=>cH)) 191 (gY ps) 3 ps.length D m (S.oh r) iG t
  (λj u N=>by
   have n:(⟨f,g,none⟩:Addr).add j=⟨f,g+j,none⟩:=by grind[Addr.add]
   grind[cell_of_row]) aD (nG _)
 rw[Ts B] at e;refine lF ae λK z=>?_;unfold Oper.wp;simp only[execOp,resolve,invoke,builtin,kj,qq,mS,map_toArray,xd,map_nil,A,C,e];exact z _ _ (h _ (S.set r _))
theorem Qw(P D J:Nat)(s:Pl)(e8:s.dv.ops<=999000000)(bs:List cy)(f2:bs.length<=100000)(e2:eU bs)(v:cI)(dO:cD)(av:cI)(e9:eJ bs.length 8<=dO.length)(f1:dO.length<=100000)(d9:∀x∈dO,x<=1000000)(w:cB)(h:ej w P D J s)(R:ko w v bs)(RA:cK w 3 1 av dO.length (pB dO)):
 CallsIn Fence.wide 5 prog 280 #[.pointer (some ⟨P,0,none⟩),v,av] w λe w'=>∃r,e=.returned (.tuple #[r,.int .i64 (dW s bs dO).2.2])/\gg w' w.heap.size r (dW s bs dO).2.1/\eU (dW s bs dO).2.1/\ej w' P D J (dW s bs dO).1/\Fr (some D) [] w w':=by
 obtain⟨bo,Y,rfl,a8,f3⟩:=du R;obtain⟨aa,C,rfl,d8,d7⟩:=du RA;have HR:=cq R;have d6:=cq RA;have S:=St.start w (some D) [] (dw P D J s) h;have hN:eJ bs.length 8<=100000:=cw;clear R RA h;refine callsIn_of_wp_marks func280 rfl gI ?_ rfl;simp only[ntmps280,zm,kr,r7,reduceAdd,reduceSub,zn,zp,tU,tV,ot,sL]
 gi_upto_region 0 with fail
 refine jd mB cX tM ?_
 go_wp2_with first|refine BX S (v:=cZ P 0) rfl rfl rfl λW3 S=>?_|refine BX S (v:=.slice aa dO.length C) rfl rfl rfl λW5 S=>?_|refine zC S zeroValue107 rfl rfl λW6 S=>?_|refine zC S zeroValue27 rfl rfl λW7 S=>?_
 gi_upto_region 1 with fail
 refine jd mB cX tM ?_
 go_wp2_with refine ey λW S=>?_
 gi_upto_region 2 with fail
 refine jd mB cX tM ?_
 go_wp2_with (refine(VV bo bs.length Y _).mono ?_;rintro e W2 ⟨rfl,hW⟩;have HB:=cq (Ck hW);clear hW)
 gi_wp2
 replace S:St w (some D) [] [⟨W7.heap.size,107,1,λ_=>.slice none 0 0⟩,⟨W6.heap.size,27,1,λ_=>.int .i64 0⟩,⟨W5.heap.size,107,1,λ_=>.slice none 0 0⟩,⟨W3.heap.size,81,1,λ_=>.slice aa dO.length C⟩,⟨w.heap.size,68,1,λ_=>cZ P 0⟩] [] (Bq P D J s) W:=S;obtain⟨hb,Z,b9,c6,c5,f4⟩:=HB.o;obtain⟨u,e4⟩:=c8 W.heap.size;rw[e4] at Z b9 c6 c5|-;have e3:∀k∈ [u,u+1],(W.heap.size<=k∨k<w.heap.size)/\∃t,gx W2 k=some t/\kO t=false/\fT t=false:=by
  intro k E;simp only[ib,iS,sM] at E;rcases E with rfl|rfl
  . exact⟨.inl cw,_,c6,rfl,rfl⟩
  . exact⟨.inl cw,_,c5,rfl,rfl⟩
 replace S:=(S.Hi 106 3 rfl rfl).SU hb e3;have e1:=S.x.2;have d1:w.heap.size<=W2.heap.size:=S.fr.size;have f:∀s',kK (some D) (λB w=>Bq P D J s' B w/\Rr [u,u+1] B w):=λs'=>(dw P D J s').still (jM _);have G:∀s',kQ (λB w=>Bq P D J s' B w/\Rr [u,u+1] B w):=λs'=>(kQ.pl P D J s').and (kQ.av _);obtain⟨b0,o0,a2⟩:∃b o,0<bs.length->bo=s_ b o:=by
  grind
 refine wpIn_rangeFunc_ownF rfl cw (gf:=293) (lb:=#[cZ u 0,cZ (u+1) 0]) rfl gI (enters_of func293 cX rfl)
  (Qp 4 u (u+1) bs.length Y bo b0 o0 a2 a8 cw W2 Z b9) me.trans (me.wA λk E=>let⟨_,h1,_⟩:=(e1 k E).2;gr h1) (fO _ _) (λ_=>rfl)
  (λl X=>∃y:acy,Hid ((l.map λk=>nU bs k.val).foldl (gD dO) (s,([],0))=(y.s,(y.oq,0))/\y.oq.length=l.length/\y.s.dv.ops<=s.dv.ops+l.length/\eU y.oq)/\St w (some D) [] [⟨W7.heap.size,107,1,λ_=>.slice y.a y.oq.length y.c⟩,⟨W6.heap.size,27,1,λ_=>.int .i64 0⟩,⟨W5.heap.size,107,1,λ_=>.slice none 0 0⟩,⟨W3.heap.size,81,1,λ_=>.slice aa dO.length C⟩,⟨w.heap.size,68,1,λ_=>cZ P 0⟩] [⟨106,3,.slice y.a y.oq.length y.c,y.oq.length,gY y.oq⟩] (λB w=>Bq P D J y.s B w/\Rr [u,u+1] B w) X)
  (λc l X=>∃y:aeX,Hid (c=.ret/\(l.map λk=>nU bs k.val).foldl (gD dO) (s,([],0))=(y.y.s,([],y.code))/\y.code≠0)/\St w (some D) [] [⟨W7.heap.size,107,1,λ_=>.slice y.y.a y.y.oq.length y.y.c⟩,⟨W6.heap.size,27,1,λ_=>.int .i64 y.code⟩,⟨W5.heap.size,107,1,λ_=>.slice none 0 0⟩,⟨W3.heap.size,81,1,λ_=>.slice aa dO.length C⟩,⟨w.heap.size,68,1,λ_=>cZ P 0⟩] [] (λB w=>Bq P D J y.y.s B w/\Rr [u,u+1] B w) X)
  (qB d1 _ _ _ _ λ_(y:acy)=>G y.s) (λc=>qB d1 _ _ _ _ λ_(y:aeX)=>G y.y.s)
  ⟨⟨none,0,s,[]⟩,cq ⟨rfl,rfl,dK _,dy⟩,S⟩ ?a1 ?assign ?body ?done ?stop
 case assign=>
  intro lp z X K j
  gi_wp2
  exact j
 case body=>
  clear S;rintro lp l z W0 ⟨⟨ya,yc,s',d⟩,M,S⟩ a3;simp only at M S;obtain⟨H,U,c1,N⟩:=M.o;replace S:=S.fV;obtain⟨ab,ao,rfl⟩:=d7 cw;have f6:=(qZ (m:=bs.length) (n:=8) cw).1 z.isLt;obtain rfl:=a2 cw;obtain⟨F,a7⟩:∃F,dO[d.length]?=some F:=⟨_,iz cw⟩;have b7:dO.getD d.length 0=F:=by grind
  have e6:=d9 F (kt a7);have b2:=cq λW(h:Fr (some D) [] w W)=>(d6.o.fr h (.inr rfl) rfl).cellAt (show 0<dO.length by omega) (show(pB dO)[d.length]?=some (.int .i64 F) from by unfold pB;rw[ql,a7];rfl);obtain⟨pv,b5⟩:=c8 (sq b0 o0 3 bs.length 8 z.val);have a4:=cq λW(h:Fr (some D) [] w W)=>(show ko W pv (nU bs z.val) from by rw[<-b5];exact acz (HR.o.fr h (.inr rfl) rfl) z.isLt);have b3:=ZI (bs:=bs) z.isLt;have p:∃pb po,pv=.slice (s_ pb po) (nU bs z.val).length (nU bs z.val).length:=by rw[<-b5];exact V3 z.isLt
  have a:gD dO (s',(d,0)) (nU bs z.val)=match lZ (λi=>(nU bs z.val).getD i cH) with|none=>(s',([],51))|some sec=>if(dY s' (F:Nat) sec).2.2≠0 then((dY s' (F:Nat) sec).1,([],(dY s' (F:Nat) sec).2.2)) else((dY s' (F:Nat) sec).1,(d++[(dY s' (F:Nat) sec).2.1],0)):=by unfold gD;simp only[b7];simp
  have b8:∀i,i<8->cY ((nU bs z.val).getD i cH):=λi _=>Tq e2 z.val i;obtain⟨pp,Q⟩:=q8 (nU bs z.val);rw[Q.o] at a b8 a4 b3 p;obtain⟨nl,T⟩:∃nl:Nat->cy,nl=λi=>pp.getD i cH:=⟨_,rfl⟩;have V:=cq λW=>DJ nl (by rw[T];exact b8) W;rw[<-T] at a;have d2:=cq T;obtain⟨NV,d3⟩:=xm (ct 24 (dX nl));rw[show abu nl=.agg NV by rw[d3.o];rfl] at V;have HF:=cq H;have a6:=cq N;have d4:=cq U;have e7:(d.length:Int)<(dO.length:Int):=cw;have f5:d.length<100000:=cw;have d5:=cq p;clear N a7 b7 M U T p;rw[b5];obtain⟨pb,po,e5⟩:=d5.o;subst e5
  gi_upto_region 4 with fail
  gi_upto_region 4 with fail
  refine jd mB cX tM ?_
  go_wp2_with refine ey λW S=>?_
  gi_upto_region 5 with fail
  refine jd mB cX tM ?_
  go_wp2_with first|refine mD rfl 191 (.tmp 10) none none none rfl _ (Tr _ _) ?_|(refine agM S 0 rfl (a4.o _ S.fr) b3.1 b3.2 underlying107 jD rfl rfl λW S=>?_;rw[<-d2.o] at S)
  cases hn:lZ nl with
  |none=>
   rw[hn] at a V;simp only at a;have L:fp 51 (none:Option cD)=51:=rfl;rw[L] at V;have HN:=cq (show((l++[z]).map λk=>nU bs k.val).foldl (gD dO) (s,([],0))=(s',([],51)) from by rw[mI,Ab,HF.o];show gD dO (s',(d,0)) (nU bs z.val)=_;rw[Q.o];exact a);clear a hn L
   gi_upto_region 6 with fail
   gi_upto_region 6 with fail
   refine jd mB cX tM ?_
   go_wp2_with first|(refine(V.o _).mono ?_;rintro e W ⟨B,rfl,hB,hb⟩;have HB:=cq hB;replace S:=S.cx hb;clear hB)|refine nO S rfl rfl HB.o BT rfl mB (iJ _) λW S=>?_|refine eR ?_
   gi_upto_region 8 with fail
   gi_upto_region 8 with fail
   refine jd mB cX tM ?_
   go_wp2_with first|refine tR S 3 rfl 0 pR rfl rfl rfl OI λW S=>?_|refine ey λW S=>?_
   gi_wp2
   have E:=S.kept (f s');have S9:=E.2.2.pop.pop.M6;refine⟨E.1,⟨⟨ya,yc,s',d⟩,51⟩,cq ⟨rfl,HN.o,show(51:Int)≠0 by decide⟩,?_⟩;exact(S9.wv (k:=1) rfl (g:=λ_=>.int .i64 51) λi O=>by have O:i<1:=O;obtain rfl:i=0:=cw;rfl).wv (k:=2) rfl (g:=λ_=>.slice none 0 0) λi O=>by grind
  |some sec=>
   have b4:=EK hn;rw[hn] at a V;simp only at a;have L:fp 51 (some sec)=0:=rfl;rw[L] at V;simp only[ku] at V;have c4:=zf S.x.1.1.ok.1 (F:Nat) sec b4.2;have c3:=sw s' (F:Nat) sec;have C1:=cq λW pv h hv=>y8 P D J s' cw (F:Nat) (by unfold ee;omega) 36 pv sec W h hv;rcases hg:dY s' (F:Nat) sec with⟨s1,q,c⟩;rw[hg] at C1 a c4 c3;simp only at C1 a c4 c3;obtain⟨A,hA⟩:=eW (ct 3 (c7 q));rw[cP hA] at C1;have HA:=cq hA;have b6:=cq b4;clear hg hA hn L b4
   gi_upto_region 6 with fail
   gi_upto_region 6 with fail
   refine jd mB cX tM ?_
   go_wp2_with first|(refine(V.o _).mono ?_;rintro e WN ⟨B,rfl,hB,hb⟩;have HB:=cq hB;replace S:=S.cx hb;clear hB)|refine nO S rfl rfl HB.o BT rfl mB (iJ _) λW S=>?_|refine eR ?_
   gi_upto_region 9 with fail
   refine yW mB S cX cX tM λW S=>?_;refine fW 0 (cZ P 0) rfl (sh S 6 (λ_ h=>h) rfl 0 rfl pR rfl acw) ?_;refine fW 1 (.slice (s_ ab ao) dO.length C) rfl (sh S 5 (λ_ h=>h) rfl 0 rfl pR rfl acx) ?_;refine cJ 2 (.slice ya d.length yc) ?_;refine cJ 3 (.int .i64 d.length) ?_;refine cJ 4 (cZ ab (ao+d.length)) ?_;refine fW 5 (.int .i64 F) rfl (fR (λw h=>by obtain⟨_,S⟩:=h;exact b2.o _ S.fr) rfl BU) ?_;refine cJ 6 (.slice (s_ WN.heap.size 0) 128 128) ?_;refine Xx 7 11 (λK j=>?_) λK j=>?_
   rotate_left
   focus(
    refine FD S vV gQ rfl λW S=>?_;refine j.out _ _ ⟨_,S.pop⟩ λ_=>?_
    try simp only[MH]
    clear j K;refine jQ 7 λK j=>?_
    go_wp2_with fail
    refine(C1.o _ _ S.x.1.1 (kZ.sec (S.row ⟨WN.heap.size,36,128,cN sec⟩ (by simp only[mml,mmp])).1 b6.o)).mono ?_;rintro e X ⟨rfl,hp,H⟩;replace S:=S.call H (λD e=>e) dU (kK.fV [u,u+1] W0 (f s1)) (λB h=>⟨⟨hp,(jM _).fr h.1.2 H⟩,FP h.2 H⟩);refine j.out _ _ ⟨_,S.pop⟩ λ_=>?_;refine cJ 8 _ (hS:=⟨_,S.pop⟩) ?_;refine cJ 9 (.agg A) (hS:=⟨_,S.pop⟩) ?_;refine cJ 10 (.int .i64 c) (hS:=⟨_,S.pop⟩) ?_;refine jQ 12 λK j=>?_;refine ju S 0 rfl rfl rfl HA.o eN (df _) λW S=>?_;refine j.out _ _ ⟨_,S.pop⟩ λ_=>?_
    try simp only[MH]
    clear j K;refine cJ 13 _ (hS:=⟨_,S.pop⟩) ?_;refine pz ?_
   )
   rotate_left
   focus(
    go_wp2_with fail
    refine(C1.o _ _ S.x.1.1 (kZ.sec (S.row ⟨WN.heap.size,36,128,cN sec⟩ (by simp only[mml,mmp])).1 b6.o)).mono ?_;rintro e X ⟨rfl,hp,H⟩;replace S:=S.call H (λD e=>e) dU (kK.fV [u,u+1] W0 (f s1)) (λB h=>⟨⟨hp,(jM _).fr h.1.2 H⟩,FP h.2 H⟩);refine fC j ?_;refine cJ 8 _ ?_;refine cJ 9 (.agg A) ?_;refine cJ 10 (.int .i64 c) ?_;refine jQ 11 λK j=>?_;refine FD S vV gQ rfl λW S=>?_;refine j.out _ _ ⟨_,S.pop⟩ λ_=>?_
    try simp only[MH]
    clear j K;refine jQ 12 λK j=>?_;refine ju S 0 rfl rfl rfl HA.o eN (df _) λW S=>?_;refine j.out _ _ ⟨_,S.pop⟩ λ_=>?_
    try simp only[MH]
    clear j K;refine cJ 13 _ (hS:=⟨_,S.pop⟩) ?_;refine pz ?_
   )
   all_goals(
   by_cases hc:c=0
   . subst hc;rw[cM dU] at a;have HN:=cq (show((l++[z]).map λk=>nU bs k.val).foldl (gD dO) (s,([],0))=(s1,(d++[q],0)) from by rw[mI,Ab,HF.o];show gD dO (s',(d,0)) (nU bs z.val)=_;rw[Q.o];exact a);clear a
     gi_upto_region 12 with fail
     gi_upto_region 12 with fail
     refine jd mB cX tM ?_
     go_wp2_with first|refine rK S 0 rfl 0 rfl rfl rfl rfl fU (df _) Br wR λg9 c9 W S=>?_|refine tR S 4 rfl 0 pR rfl rfl rfl nk λW S=>?_|refine eR ?_|refine ey λW S=>?_
     gi_wp2
     have E:=S.kept (f s1);have S9:=E.2.2.pop.pop.pop.pop;refine⟨E.1,E.2.1,⟨some ⟨g9,0,none⟩,c9,s1,d++[q]⟩,cq ⟨HN.o,by rw[ik,ik,d4.o];rfl,by grind,λr hr=>(fL.1 hr).elim (a6.o r) (λh=>by grind)⟩,?_⟩;rw[ik,im,oH];exact S9.wv (k:=0) rfl (g:=λ_=>.slice (s_ g9 0) (d.length+1) c9) λi O=>by have O:i<1:=O;obtain rfl:i=0:=cw;rfl
   . have g1:(c !=0)=true:=eO.2 hc;rw[cL hc] at a;have HN:=cq (show((l++[z]).map λk=>nU bs k.val).foldl (gD dO) (s,([],0))=(s1,([],c)) from by rw[mI,Ab,HF.o];show gD dO (s',(d,0)) (nU bs z.val)=_;rw[Q.o];exact a);have HC:=cq hc;clear a hc
     gi_upto_region 11 with fail
     gi_upto_region 11 with fail
     refine jd mB cX tM ?_
     go_wp2_with first|refine tR S 4 rfl 0 pR rfl rfl rfl OI λW S=>?_|refine ey λW S=>?_
     gi_wp2
     have E:=S.kept (f s1);have S9:=E.2.2.pop.pop.pop.M6;refine⟨E.1,⟨⟨ya,yc,s1,d⟩,c⟩,cq ⟨rfl,HN.o,HC.o⟩,?_⟩;exact(S9.wv (k:=1) rfl (g:=λ_=>.int .i64 c) λi O=>by have O:i<1:=O;obtain rfl:i=0:=cw;rfl).wv (k:=2) rfl (g:=λ_=>.slice none 0 0) λi O=>by grind
   )
 case done=>
  clear S;rintro D2 ys W0 hD rfl ⟨⟨ya,yc,s',d⟩,M,S⟩ j;simp only at M S;obtain⟨H,U,c1,N⟩:=M.o;have a5:dW s bs dO=(s',(d,0)):=H;have I:=cq a5;have a6:=cq N;clear U c1 N M a5;replace S:=S.fV
  gi_upto_region 13 with fail
  gi_upto_region 13 with fail
  refine jd mB cX tM ?_
  go_wp2_with first|refine jl 46 107 8 S 0 0 (.slice ya d.length yc) ?_|refine tR S 2 rfl 0 pR rfl rfl rfl nk λW S=>?_|refine tR S 1 rfl 0 (v:=.int .i64 0) pR rfl rfl rfl OI λW S=>?_
  gi_wp2
  have E:=S.kept (f s');refine Cl E.2.2 (G s') cw (E.1.same D2 _ j rfl) λX S=>?_;have a9:=S.cell (k:=2) rfl (i:=0) yn;have b1:=S.cell (k:=1) rfl (i:=0) yn;refine⟨.tuple #[.slice ya d.length yc,.int .i64 0],by simp[results,f280,go_sem,a9,b1],?_⟩;rw[I.o];exact⟨_,rfl,S.o0,a6.o,S.x.1,S.fr⟩
 case stop=>
  clear S;rintro D2 cc l W0 hD a3 ⟨⟨⟨ya,yc,s1,d⟩,c2⟩,M,S⟩ j;simp only at M S;obtain⟨rfl,H,hc⟩:=M.o;have I:=cq (Lx a3 H hc);clear M
  gi_wp2
  refine Cl S (G s1) cw j λX S=>?_;have a9:=S.cell (k:=2) rfl (i:=0) yn;have b1:=S.cell (k:=1) rfl (i:=0) yn;refine⟨.tuple #[.slice none 0 0,.int .i64 c2],by simp[results,f280,go_sem,a9,b1],?_⟩;rw[I.o];exact⟨_,rfl,gg.nil _ _,dy,S.x.1,S.fr⟩
def Nx(P D b:Nat)(s:Pl)(a:s.dv.ops<=999000000)(bs:List cy)(i:bs.length<=100000)(j:eU bs)(v:cI)(dO:cD)(c:cI)(d:eJ bs.length 8<=dO.length)(f:dO.length<=100000)(g:∀x∈dO,x<=1000000)(w:cB)(h:ej w P D b s)(R:ko w v bs)(k:cK w 3 1 c dO.length (pB dO)):
 CP_ 280 #[.pointer (some ⟨P,0,none⟩),v,c] w λe w'=>∃r,e=.returned (.tuple #[r,.int .i64 (dW s bs dO).2.2])/\gg w' w.heap.size r (dW s bs dO).2.1/\eU (dW s bs dO).2.1/\ej w' P D b (dW s bs dO).1/\Fr (some D) [] w w':=
 r9.1 (Qw P D b s a bs i j v dO c d f g w h R k)
theorem Tt(dO:cD)(a:Pl×(List cy×Int))(b:cD):(gH dO a b).1.dv.ops<=a.1.dv.ops+1:=by unfold gH;split;omega;grind[sw]
theorem Qx(dO:cD)(a:Pl×(List cy×Int))(b:List cy):(gD dO a b).1.dv.ops<=a.1.dv.ops+1:=by unfold gD;split;omega;split;grind;grind[sw]
theorem zO{α β:Type}{f:Pl×β->α->Pl×β}(h:∀a x,(f a x).1.dv.ops<=a.1.dv.ops+1):∀(l:List α)(a:Pl×β),(l.foldl f a).1.dv.ops<=a.1.dv.ops+l.length
 | [],a=>dK _
 |x::l,a=>by
  rw[ym,kr];have:=zO h l (f a x);have:=h a x;omega
theorem F9(s:Pl)(bs dO:cD):(gh s bs dO).1.dv.ops<=s.dv.ops+eJ bs.length 128:=by grind[gh,zO,Tt]
theorem DV(s:Pl)(ps:List cy)(dO:cD):(dW s ps dO).1.dv.ops<=s.dv.ops+eJ ps.length 8:=by grind[dW,zO,Qx]
theorem Tu{b:cD}(h:(gH dO a b).2.2=0):a.2.2=0/\(gH dO a b).2.1.length=a.2.1.length+1:=by unfold gH at h|-;grind
theorem Qy{b:List cy}(h:(gD dO a b).2.2=0):a.2.2=0/\(gD dO a b).2.1.length=a.2.1.length+1:=by unfold gD at h|-;grind
def Ly{α:Type}{f:Pl×(List cy×Int)->α->Pl×(List cy×Int)}(h:∀a x,(f a x).2.2=0->a.2.2=0/\(f a x).2.1.length=a.2.1.length+1):∀(l:List α)(a:Pl×(List cy×Int)),(l.foldl f a).2.2=0->a.2.2=0/\(l.foldl f a).2.1.length=a.2.1.length+l.length
 | [],a,h0=>⟨h0,ae⟩
 |x::l,a,h0=>by
  rw[ym] at h0|-;obtain⟨b,c⟩:=Ly h l (f a x) h0;obtain⟨d,e⟩:=h a x b;exact⟨d,by rw[c,e,kr];omega⟩
theorem F'{bs:cD}(h:(gh s bs dO).2.2=0):(gh s bs dO).2.1.length=eJ bs.length 128:=by unfold gh at h|-;have:=(Ly (λa x=>Tu) _ _ h).2;grind
theorem DW(h:(dW s ps dO).2.2=0):(dW s ps dO).2.1.length=eJ ps.length 8:=by unfold dW at h|-;have:=(Ly (λa x=>Qy) _ _ h).2;grind
def Lz{α:Type}{f:Pl×(List cy×Int)->α->Pl×(List cy×Int)}(h:∀a x,(f a x).2.2≠0->a.2.2≠0/\f a x=a∨(f a x).2.1=[]):∀(l:List α)(a:Pl×(List cy×Int)),(a.2.2≠0->a.2.1=[])->(l.foldl f a).2.2≠0->(l.foldl f a).2.1=[]
 | [],a,ha,h0=>ha h0
 |x::l,a,ha,h0=>by
  rw[ym] at h0|-;exact Lz h l (f a x) (λhc=>(h a x hc).elim (λ⟨h1,h2⟩=>by rw[h2];exact ha h1) id) h0
theorem Ga(s:Pl)(bs dO:cD)(h:(gh s bs dO).2.2≠0):(gh s bs dO).2.1=[]:=by unfold gh at h|-;refine Lz (λa x hc=>?_) _ _ (λ_=>ae) h;unfold gH at hc|-;grind
theorem DX(s:Pl)(ps:List cy)(dO:cD)(h:(dW s ps dO).2.2≠0):(dW s ps dO).2.1=[]:=by unfold dW at h|-;refine Lz (λa x hc=>?_) _ _ (λ_=>ae) h;unfold gD at hc|-;grind
theorem rO(f s:Nat):s<=(iT f s).sum:=by cases f<;>grind[iT]
def Qz:ER prog 81 1:=⟨cX,λW=>by rfl⟩
def aic:cI->Nat
 | .slice _ n _=>n
 |_=>0
structure QA(f:Nat)(a:Pl×(List cy×Int))(left:Nat):Prop where
 ops:a.1.dv.ops+1000*f<=998030000
 ok:a.2.2=0->∃g,g<f/\left+a.2.1.length=(iT g a.2.1.length).sum/\1<=a.2.1.length/\a.2.1.length<=512/\a.2.1.length<=8^g
 err:a.2.2≠0->a.2.1=[]
def iE:Nat->Pl×(List cy×Int)->cD->Pl×(List cy×Int)
 |0,a,_=>a
 |f+1,a,dO=>if a.2.2=0/\1<a.2.1.length then iE f (dW a.1 a.2.1 dO) (dO.drop (dW a.1 a.2.1 dO).2.1.length) else a
def fx(s:Pl)(bs dO:cD):Pl×(cy×Int):=
 if jn (bs.length:Nat)=0∨dO.length≠jn (bs.length:Nat) then(s,(cH,121)) else
 let r:=iE 20 (gh s bs dO) (dO.drop (gh s bs dO).2.1.length)
 if r.2.2≠0 then(r.1,(cH,r.2.2)) else(r.1,(r.2.1.headD cH,0))
theorem QB(s:Pl)(ps:List cy)(dO:cD):(dW s ps dO).2.1.length<=eJ ps.length 8:=by by_cases h:(dW s ps dO).2.2=0;simp_all[DW];simp_all[DX]
def Gb:∀(f:Nat)(a:Pl×(List cy×Int))(dO:cD),(iE f a dO).1.dv.ops<=a.1.dv.ops+2*a.2.1.length
 |0,a,_=>xe _ _
 |f+1,a,dO=>by
  unfold iE;split
  . next h=>
    have b:=Gb f (dW a.1 a.2.1 dO) (dO.drop (dW a.1 a.2.1 dO).2.1.length);have c:=DV a.1 a.2.1 dO;have d:=QB a.1 a.2.1 dO;have e:eJ a.2.1.length 8=(a.2.1.length+7)/8:=rfl;omega
  . omega
theorem wJ(s:Pl)(bs dO:cD):(fx s bs dO).1.dv.ops<=s.dv.ops+2000:=by unfold fx;split;grind;next h=>(have g:bs.length<=65535:=by have a:jn (bs.length:Nat)≠0:=λe=>h (.inl e);unfold jn jV at a;grind);(have b:=F9 s bs dO;have c:=Gb 20 (gh s bs dO) (dO.drop (gh s bs dO).2.1.length);have d:(gh s bs dO).2.1.length<=eJ bs.length 128:=by by_cases h:(gh s bs dO).2.2=0;simp_all[F'];simp_all[Ga]);have f:eJ bs.length 128=(bs.length+127)/128:=rfl;grind
theorem Gc(P D M0:Nat)(s:Pl)(e4:s.dv.ops<=998000000)(bs:cD)(d5:bs.length<=100000)(v:cI)(dO:cD)(av:cI)(d3:dO.length<=100000)(b8:∀x∈dO,x<=1000000)(w:cB)(h:ej w P D M0 s)(R:kZ w 5 v bs)(RA:cK w 3 1 av dO.length (pB dO)):
 CP_ 257 #[.pointer (some ⟨P,0,none⟩),v,av] w λe w'=>∃A,e=.returned (.tuple #[.agg A,.int .i64 (fx s bs dO).2.2])/\A=ct 3 (c7 (fx s bs dO).2.1)/\cY (fx s bs dO).2.1/\ej w' P D M0 (fx s bs dO).1/\Fr (some D) [] w w':=by
 obtain⟨bo,b7,rfl,d4,-⟩:=du R.1;obtain⟨aa,K,rfl,d2,-⟩:=du RA;have HR:=cq R;have b6:=cq RA;have S:=St.start w (some D) [] (dw P D M0 s) h;obtain⟨nd,J⟩:=q8 (jn (bs.length:Nat));have C1:=cq λW=>FZ (bs.length:Nat) W;rw[J.o] at C1;clear R RA h;go_enter func257,ntmps257;by_cases G:nd=0∨dO.length≠nd
 . have C:fx s bs dO=(s,(cH,121)):=by unfold fx;rw[J.o,cL G]
   have a7:=cq C;clear C;rcases tZ nd with h0|h0;have g0:((nd:Int)==0)=true:=by rw[yl];omega
   rotate_left
   have g0:((nd:Int)==0)=false:=by rw[lx];omega
   have g1:(((dO.length:Nat):Int)!=((nd:Nat):Int))=true:=by rw[eO];omega
   all_goals
    clear G
    go_wp2_with first|refine je S (C1.o _) λW S=>?_|(refine lC ?_;rw[a7.o];exact⟨_,ae,gQ,dA,S.x,S.fr⟩)|refine eR ?_|refine ey λW S=>?_
 . have g0:((nd:Int)==0)=false:=by rw[lx];omega
   have g1:(((dO.length:Nat):Int)!=((nd:Nat):Int))=false:=by rw[tX];omega
   have e6:1<=bs.length/\bs.length<=65535:=by
    have L:jn (bs.length:Nat)≠0:=by rw[J.o];omega
    unfold jn jV at L
    grind
   obtain⟨s0,e1⟩:=c8 ((bs.length+127)/128);have a5:dO.length=(iT 10 s0).sum:=by
    have L:=J.o;unfold jn jV at L
    grind
   have b1:eJ bs.length 128=s0:=by rw[<-e1];rfl
   have a1:s0<=dO.length:=by rw[a5];exact rO 10 s0
   have C:fx s bs dO=(let r:=iE 20 (gh s bs dO) (dO.drop (gh s bs dO).2.1.length);if r.2.2≠0 then(r.1,(cH,r.2.2)) else(r.1,(r.2.1.headD cH,0))):=by
    unfold fx;rw[J.o,cM G]
   have C2:=cq λW h hr ha=>Qv P D M0 s cw bs d5 (.slice bo bs.length b7) dO (.slice aa dO.length K) (by rw[b1];exact a1) d3 b8 W h hr ha;have n:=F9 s bs dO;have m:=F' (s:=s) (bs:=bs) (dO:=dO);have l:=Ga s bs dO;rw[b1] at n m;rcases hg:gh s bs dO with⟨s1,t,c1⟩;rw[hg] at C2 n m l C;simp only at C2 n m l C;obtain⟨R0,b5⟩:=q8 (iE 20 (s1,(t,c1)) (dO.drop t.length));rw[b5.o] at C;have a7:=cq C;have a3:t.length<=dO.length:=by
    grind
   have b3:=cq (show QA 20 (s1,(t,c1)) (dO.length-t.length) from by
    refine⟨by simp only;omega,λhc=>?_,λhc=>l hc⟩
    grind)
   clear C a5 m l n b1 a1 G hg
   go_wp2_with first|refine je S (C1.o _) λW S=>?_|(refine ag (C2.o _ S.x (HR.o.fr S.fr au ae) (b6.o.fr S.fr au ae)) λr W⟨ho,U,hp,hf⟩=>?_;have HF:=cq (cS ho);have c6:=cq U;have S1:=S.sf hf ar dU (dw P D M0 s1) (λB h=>hp) ho ae ae;clear S U;have S:=S1.SY (cK.iW (S1.s8 (k:=0) ae)) (λ_=>ae) ae ae;clear S1;obtain⟨ma,mc,rfl⟩:=HF.o)|refine xU Qz ae ae a3 ?_|refine ey λW S=>?_
   have c9:Hid (cK w 3 1 (.slice (kx aa K t.length 1) (dO.length-t.length) (K-t.length)) (dO.length-t.length) (pB (dO.drop t.length))):=cq (by
    have L:=cK.Bj b6.o a3;rw[q7] at L;unfold pB at L|-
    simp_all)
   go_loopw [9,10,2] (λu e v wr=>∃f a p la lc H F I,u=.slice la a.2.1.length lc/\e=.int .i64 a.2.2/\v=.slice H I F/\Hid (iE f a p=R0/\QA f a I/\p.length=I/\I<=100000/\(∀x∈p,x<=1000000)/\cK w 3 1 (.slice H I F) I (pB p)/\eU a.2.1/\
    St w (some D) [] [⟨w.heap.size,106,3,c7 cH⟩] [] (λB w=>Bq P D M0 a.1 B w/\xL 106 3 (.slice la a.2.1.length lc) a.2.1.length (gY a.2.1) B w) wr)) (λu _ _ _=>aic u)
   case atStart=>exact⟨20,(s1,(t,c1)),dO.drop t.length,_,_,_,_,_,ae,ae,ae,cq ⟨b5.o,b3.o,r8,cw,λx hx=>b8 x (mR hx),c9.o,c6.o,S⟩⟩
   case round=>
    clear S;obtain⟨f,a,p,la,lc,H,F,I,rfl,rfl,rfl,hS⟩:=hrel;obtain⟨s2,E,c⟩:=a;simp only at hS|-;by_cases X:c=0/\1<E.length
    . obtain⟨rfl,O⟩:=X;have N:=hS.o.2.1;have Q:=hS.o.2.2.1;obtain⟨g,d6,V,Y,a8,a9⟩:=N.ok ae;simp only at V Y a8 a9;obtain⟨f,rfl⟩:∃f',f=f'+1:=⟨f-1,cw⟩;obtain⟨g,rfl⟩:∃g',g=g'+1:=⟨g-1,by grind⟩;have a2:iT (g+1) E.length=E.length::iT g ((E.length+7)/8):=by conv=>lhs;unfold iT;rw[cL O]
      rw[a2,sum_cons] at V;have hh:=rO g ((E.length+7)/8);have b2:eJ E.length 8=(E.length+7)/8:=rfl;have T:=N.ops;simp only at T;have C3:=cq λW h hr(ha:cK W 3 1 (.slice H I F) I (pB p))=>Nx P D M0 s2 cw E cw hS.o.2.2.2.2.2.2.1 (.slice la E.length lc) p (.slice H I F) (by rw[b2,Q];omega) (by rw[Q];exact hS.o.2.2.2.1) hS.o.2.2.2.2.1 W h hr (by rw[Q];exact ha);have n:=DV s2 E p;have m:=DW (s:=s2) (ps:=E) (dO:=p);have l:=DX s2 E p;rw[b2] at n m;have d:=hS.o.1;unfold iE at d;rw[cL ⟨ae,O⟩] at d;rcases hg:dW s2 E p with⟨s3,y,c3⟩;simp only at d;rw[hg] at C3 n m l d;simp only at C3 n m l d;have a4:y.length<=I:=by
       grind
      have d1:(8:Nat)^(g+1)=8*8^g:=by rw[Nat.pow_succ,Nat.mul_comm]
      have a6:=cq (show QA f (s3,(y,c3)) (I-y.length) from by
       refine⟨by grind,λhc=>?_,λhc=>l hc⟩
       grind)
      have d8:y.length<E.length:=by
       grind
      have z:=cq d;have c2:=cq hS.o.2.2.2.2.1;have c4:=cq hS.o.2.2.2.1;have c5:=cq Q;have Z:=cq hS.o.2.2.2.2.2.1;have S:=hS.o.2.2.2.2.2.2.2;have e5:(1:Int)<(E.length:Int):=cw;clear Q N hS V a2 hh b2 T n m l d hg d1
      go_wp2_with first|(refine ag (C3.o _ S.x.1 S.x.2.1 (Z.o.fr S.fr au ae)) λr W⟨ho,U,hp,hf⟩=>?_;have HF:=cq (cS ho);have b4:=cq U;have S1:=S.sf hf ar dU (dw P D M0 s3) (λB h=>hp) ho ae ae;clear S U;have S:=S1.SY (cK.iW (S1.s8 (k:=0) ae)) (λ_=>ae) ae ae;clear S1;obtain⟨e2,e3,rfl⟩:=HF.o)|refine xU Qz ae ae a4 ?_
      go_roundw
      case rel=>
       refine⟨f,(s3,(y,c3)),p.drop y.length,e2,e3,kx H F y.length 1,F-y.length,I-y.length,ae,ae,ae,cq ⟨z.o,a6.o,by rw[r8,c5.o],by have:=c4.o;omega,λx hx=>c2.o x (mR hx),?_,b4.o,S⟩⟩;have L:=cK.Bj Z.o a4;rw[q7] at L;unfold pB at L|-;rw[<-map_drop] at L;exact L
      case measure=>exact d8
    . have M:R0=(s2,(E,c)):=by
       rw[<-hS.o.1];cases f with
       |zero=>rfl
       |succ f=>unfold iE;rw[cM X]
      have d:=a7.o;rw[M] at d;by_cases hc:c=0
      . subst hc;obtain⟨g,d6,V,Y,a8,a9⟩:=hS.o.2.1.ok ae;simp only at Y;have O:E.length=1:=by
         omega
        obtain⟨q,rfl⟩:=List.length_eq_one_iff.1 O;rw[cM dU] at d;simp only[headD_cons] at d;have d9:=hS.o.2.2.2.2.2.2.1 q (lW ..);have S:=hS.o.2.2.2.2.2.2.2;obtain⟨A,hA⟩:=eW (ct 3 (c7 q));have HA:=cq hA;have b9:=cq (jK [q] (i:=0) dU (A:=A) hA);obtain⟨lb,lo,d7⟩:∃b o,la=s_ b o:=by
         obtain⟨_,_,he,_,h2⟩:=du S.x.2.1
         grind
        subst d7;have z:=cq d;clear hS d M hA X V Y a8 a9 O
        go_wp2_with first|refine Bf S.x.2.1 (j:=0) dU (tL HA) b9.o ?_|(refine lC ?_;rw[z.o];exact⟨_,ae,ae,d9,S.x.1,S.fr⟩)|refine ey λW S=>?_
      . have g2:(c==0)=false:=by grind
        have g3:(c !=0)=true:=eO.2 hc;rw[cL hc] at d;have z:=cq d;have S:=hS.o.2.2.2.2.2.2.2;have HC:=cq hc;clear hS d M X hc
        go_wp2_with first|(refine lC ?_;rw[z.o];exact⟨_,ae,gQ,dA,S.x.1,S.fr⟩)|refine eR ?_|refine ey λW S=>?_
end
def knX(bs:cD)(a:cB):cD->cB->Prop:=λB w=>(∀k∈bs,k∉B/\k<w.heap.size)/\∀k∈bs,w.heap[k]?=a.heap[k]?
def kK.kn(bs:cD)(i:cB)(h:kK none X):kK none (λB w=>X B w/\knX bs i B w):=
 ⟨λa c=>⟨h.cx a.1 c,λk b=>⟨(a.2.1 k b).1,oS (a.2.1 k b).2 c.size⟩,λk b=>(c.block k (a.2.1 k b).2).trans (a.2.2 k b)⟩,
  λa c=>⟨h.add a.1 c,λk b=>⟨λd=>by
   rcases ib.1 d with e|d
   . have:=(a.2.1 k b).2;omega
   . exact(a.2.1 k b).1 d,(a.2.1 k b).2⟩,a.2.2⟩,
  λa d=>⟨h.mono a.1 d,λk b=>⟨λf=>(a.2.1 k b).1 (d k f),(a.2.1 k b).2⟩,a.2.2⟩,
  λa g c m j l=>⟨h.but a.1 g c m j l,λk b=>⟨(a.2.1 k b).1,oS (a.2.1 k b).2 c.size⟩,λk b=>(c.block k (a.2.1 k b).2 (λe=>(a.2.1 k b).1 (e▸g))).trans (a.2.2 k b)⟩,
  λ_ e=>by cases e⟩
def St.kn{l:cD}(S:St w0 none l [] [] X w)(bs:cD)(a:∀k∈bs,k<w.heap.size):St w0 none l [] [] (λB w'=>X B w'/\knX bs w B w') w:=
 ⟨S.fr,S.row,S.own,S.lo,S.nd,⟨S.x,λk b=>⟨by simp[dM],a k b⟩,λ_ _=>ae⟩,kK.kn bs w S.k8⟩
def Cm:cI->cD
 | .slice (some a) (_+1) _=> [a.block]
 |_=> []
def LA{a:Addr}{c:Nat}(h:0<n):Cm (.slice (some a) n c)=[a.block]:=by obtain⟨n,rfl⟩:∃m,n=m+1:=⟨n-1,cw⟩;rfl
def dR.kn{k:IntKind}{l:List Int}(h:dR k w v l)(a:knX (Cm v) w B w'):dR k w' v l:=by obtain⟨ao,cap,rfl,e,f,g⟩:=h;refine⟨ao,cap,ae,e,f,λc=>?_⟩;obtain⟨b,o,rfl,m,hc⟩:=g c;rw[LA (z7.2 c)] at a;have d:b∈ [b]:=eV.2 ae;exact⟨b,o,ae,(a.1 b d).2,λj i=>(xp (a.2 b d)).trans (hc j i)⟩
theorem acA{c:Nat}(h:0<n->∃b o,ao=some ⟨b,o,none⟩/\b<w.heap.size):∀i∈Cm (.slice ao n c),i<w.heap.size:=by intro i a;rcases tZ n with rfl|hn;cases ao<;>cases a;obtain⟨b,o,rfl,d⟩:=h hn;rw[LA hn] at a;grind
def dR.blk{k:IntKind}{l:List Int}(h:dR k w v l):∀i∈Cm v,i<w.heap.size:=by
 obtain⟨ao,cap,rfl,d,e,a⟩:=h;exact acA λc=>let⟨b,o,h5,h6,_⟩:=a (z7.1 c);⟨b,o,h5,h6⟩
def vR.blk{l:List km}(h:vR w v l):∀i∈Cm v,i<w.heap.size:=by
 obtain⟨ao,cap,rfl,d,e,a⟩:=h;exact acA λc=>let⟨b,o,h5,h6,_⟩:=a (z7.1 c);⟨b,o,h5,h6⟩
def vR.kn{l:List km}(h:vR w v l)(a:knX (Cm v) w B w'):vR w' v l:=by obtain⟨ao,cap,rfl,f,g,i⟩:=h;refine⟨ao,cap,ae,f,g,λe=>?_⟩;obtain⟨b,o,rfl,k,hc⟩:=i e;rw[LA (z7.2 e)] at a;have c:b∈ [b]:=eV.2 ae;exact⟨b,o,ae,(a.1 b c).2,λj d=>⟨(xp (a.2 b c)).trans (hc j d).1,(xp (a.2 b c)).trans (hc j d).2.1,(xp (a.2 b c)).trans (hc j d).2.2⟩⟩
section
variable {a:Act}
variable {l:cD}{dst:Nat}{ty:dC}
theorem agN(S:St w0 d l L O X w){q r:Operand}(o:P.underlying ty=some (.slice 5))(j:(P.info? 5).map (λi=>(i.zero,i.size,i.bytes))=some (some (.int .u8 0),1,1))(k:a.eval q=.int .i64 n)(m:a.eval r=.int .i64 n)(u:n<=1000000)(h:∀W,St w0 d l (⟨w.heap.size,5,n,cN []⟩::L) O X W->wpList P ops Q rest (a.put (some dst) (.slice (some ⟨w.heap.size,0,none⟩) n n)) W):
 wpList P ops Q (⟨some dst,.makeSlice ty q r,t2,p,af,none⟩::rest) a w:=by
 obtain⟨t,c,e,f,s⟩:=nB j;have b:=run_make w ty 5 t (.int .u8 0) o c e .i64 .i64 (n:Nat) (n:Nat) cw cw iG cw;simp only[sO,f,q7] at b;refine lF ae λK g=>?_;unfold Oper.wp execOp;simp only[kj,k,m,b,mS];have hc:madeCells (Value.int .u8 0).cells n=ct n (cN []):=by apply xb;simp_all[cU,madeCells,Array.getElem?_range,Value.cells,cN,mod_one]
 rw[hc];exact g _ _ (h _ (S.alloc 5 ae ae))
theorem acB(S:St w0 d l L O X w)(k:Nat){s bs:cD}{i A:dC}{o':Nat}(q:L[k]?=some ⟨b,5,n,cN s⟩)(z:s.length=o')(R:dR .u8 w v (dh bs))(U:o'+bs.length<=n)(J:bs.length<=m)(r:P.underlying i=some (.slice 5))(g:(P.info? 5).map (·.size)=some 1)(C:a.eval (.tmp x)=.slice (some ⟨b,o',none⟩) m cap)(t:a.eval (.tmp y)=v)(h:∀W,St w0 d l (L.set k ⟨b,5,n,cN (s++bs)⟩) O X W->wpList P ops Q rest (a.put o (goInt bs.length)) W):
 wpList P ops Q (⟨o,.call {callee:=.builtin .copy,args:=#[.tmp x,.tmp y],argTypes:=#[i,A]},t2,p,af,none⟩::rest) a w:=by
 subst z;obtain⟨ao,c,rfl,f,M,H⟩:=R;rw[cV] at f t;by_cases B:bs.length=0;obtain rfl:bs=[]:=wj B;refine wpList_copy_nothing ae (.tmp x) (.tmp y) i A ae 5 r g _ ao m cap _ c C t (Nat.zero_min _) (h _ ?_);have:=S.modify q (cN (s++[])) (iU.refl _ _) (by rw[vd];exact S.oh q);exact this
 . obtain⟨F,K,rfl,N,hc⟩:=H (λe=>B (by have:=fK length e;grind[cV]));have D:Nat.min bs.length m=bs.length:=tW J;refine wpList_copy_own ae (.tmp x) (.tmp y) i A ae 5 r g b s.length m cap ⟨F,K,none⟩ _ c C t (ct n (cN s)) 5 (S.oh q) (bs.map λ(x:Nat)=>Value.int .u8 (x:Int)) iG
    (λj u T=>?_) aD (λu r=>by obtain⟨_,_,rfl⟩:=fM.1 r;rfl) ?_
   grind[Addr.add,dh];(rw[lV];have E:((ct n (cN s)).toList.take s.length++(bs.map λ(x:Nat)=>Value.int .u8 (x:Int))++(ct n (cN s)).toList.drop (s.length+(bs.map λ(x:Nat)=>Value.int .u8 (x:Int)).length)).toArray=ct n (cN (s++bs)):=by(have I:(ct n (cN s)).toList.length=n:=by grind[cF]);apply xb;intro j;rw[cU,Kc,wh,Kg,Kg,kL,I,lV,tW cw];by_cases G:j<s.length;simp_all[cU,cN,GR];rw[cM G];by_cases f:j-s.length<bs.length;rw[cL f,cL cw,ql,iz f];grind[cN];rw[cM f,getElem?_drop,show s.length+bs.length+(j-s.length-bs.length)=j by omega,mj (xs:=ct n _),cU];grind[cN]);rw[lV,wh] at E;rw[E];exact h _ (S.set q _)
end
theorem V4{s:cD}(h:s.length<=n):(ct n (cN s)).toList=dH (s++replicate (n-s.length) 0):=by apply wm;intro j;rw[mj,cU];unfold dH cN;grind
theorem Tv(h:cu w b e n f)(a:base<=b)(c:n<=maxLen):w.ownsRow base e 1 (.slice (some ⟨b,0,none⟩) n n) n (ct n f).toList:=by refine⟨by simp_all[cF],.inr ⟨b,n,ct n f,ae,a,h,dK _,c,by simp_all[cF],?_⟩⟩;simp_all[nz,cF]
theorem LB(h:¬(bs.length%5=0/\bs.length<=20480)):zx bs=none:=by unfold zx;grind
theorem OJ(a:k<bs.length/5)(h:okB bs k=false):zx bs=none:=by unfold zx;grind
theorem ZJ(b:bs.length%5=0)(c:bs.length<=20480)(a:∀j,j<bs.length/5->okB bs j=true):zx bs=some ((range (bs.length/5)).map (zw bs)):=by simp_all[zx]
theorem acC(bs:List Int)(k:Nat):(range (k+1)).map (zw bs)=(range k).map (zw bs)++[zw bs k]:=by grind[range_succ]
theorem aeY{o:Nat}(i:∀x∈bs,(Lit.int .u8 x).wf=true)(hc:∀j(h:j<bs.length),w.cell? ⟨b,o+j,none⟩=some (.int .u8 bs[j]))(F:5*k+5<=bs.length):
 ∃a c d e f:Nat,(a<256/\c<256/\d<256/\e<256/\f<256)/\
  (w.cell? ⟨b,o+5*k,none⟩=some (.int .u8 a)/\w.cell? ⟨b,o+5*k+1,none⟩=some (.int .u8 c)/\w.cell? ⟨b,o+5*k+2,none⟩=some (.int .u8 d)/\w.cell? ⟨b,o+5*k+3,none⟩=some (.int .u8 e)/\w.cell? ⟨b,o+5*k+4,none⟩=some (.int .u8 f))/\
  zw bs k=((a:Int)==1,(c:Int)+256*(d:Int),(e:Int)+256*(f:Int))/\okB bs k=(decide (a<=1)&&jC ((c:Int)+256*(d:Int)) ((e:Int)+256*(f:Int))):=by
 have g:∀j,j<5->∃x:Nat,x<256/\w.cell? ⟨b,o+5*k+j,none⟩=some (.int .u8 x)/\bs.getD (5*k+j) 0=(x:Int):=by intro j E;have C:=hc (5*k+j) cw;have D:=bounds_u8 (i _ (lU (show 5*k+j<bs.length by omega)));refine⟨(bs[5*k+j]'cw).toNat,cw,?_,?_⟩;grind;grind
 obtain⟨a,t,l,r⟩:=g 0 cw;obtain⟨c,u,m,z⟩:=g 1 cw;obtain⟨d,l2,n,d2⟩:=g 2 cw;obtain⟨e,v,p,A⟩:=g 3 cw;obtain⟨f,y,q,B⟩:=g 4 cw;rw[wi] at l r;have s:zw bs k=((a:Int)==1,(c:Int)+256*(d:Int),(e:Int)+256*(f:Int)):=by grind[zw]
 refine⟨a,c,d,e,f,⟨t,u,l2,v,y⟩,⟨l,m,n,p,q⟩,s,?_⟩;unfold okB UF;grind
def lenOf:cI->Nat
 | .slice _ n _=>n
 |_=>0
def ZK(b o n c:Nat)(d:5<=n)(hc:n<=c):∃a,(5<n->a=some ⟨b,o+5,none⟩)/\∀W,(Instr.slice 22 (.slice (some ⟨b,o,none⟩) n c) (some (.int .i64 5)) none none).run prog W=.ok (.slice a (n-5) (c-5)) W:=by refine⟨if c=5 then some ⟨b,o,none⟩ else(some ⟨b,o,none⟩:Option Addr).map (·.add (5*1)),λh=>by rw[cM cw];rfl,λW=>?_⟩;rw[run_slice_l W 22 _ n c aa1 .i64 5 cw cw,ahJ];rfl
theorem ZL(b o n c:Nat)(a:5<=n)(hc:n<=c)(W:cB):(Instr.slice 22 (.slice (some ⟨b,o,none⟩) n c) none (some (.int .i64 5)) none).run prog W=.ok (.slice (some ⟨b,o,none⟩) 5 c) W:=by rw[run_slice_h W 22 _ n c aa1 .i64 5 cw cw,ahJ];simp_all[sliced,Addr.add]
def V5{o:Nat}{c d e f g:cI}(h:w.cell? ⟨b,o,none⟩=some c/\w.cell? ⟨b,o+1,none⟩=some d/\w.cell? ⟨b,o+2,none⟩=some e/\w.cell? ⟨b,o+3,none⟩=some f/\w.cell? ⟨b,o+4,none⟩=some g)(a:b<w.heap.size)(hbel:dz w w'):
 w'.cell? ⟨b,o,none⟩=some c/\w'.cell? ⟨b,o+1,none⟩=some d/\w'.cell? ⟨b,o+2,none⟩=some e/\w'.cell? ⟨b,o+3,none⟩=some f/\w'.cell? ⟨b,o+4,none⟩=some g:=
 ⟨(hbel.cell (p:=⟨b,_,none⟩) a).trans h.1,(hbel.cell (p:=⟨b,_,none⟩) a).trans h.2.1,(hbel.cell (p:=⟨b,_,none⟩) a).trans h.2.2.1,(hbel.cell (p:=⟨b,_,none⟩) a).trans h.2.2.2.1,(hbel.cell (p:=⟨b,_,none⟩) a).trans h.2.2.2.2⟩
def Hs(w:cB)(bs:List Int)(k:Nat)(a:Option Addr):Prop:=
 5*k<bs.length->∃b o,a=some ⟨b,o+5*k,none⟩/\b<w.heap.size/\∀j(h:j<bs.length),w.cell? ⟨b,o+j,none⟩=some (.int .u8 bs[j])
theorem Tw(a:bs≠ []->∃b o,ao=some ⟨b,o,none⟩/\b<w.heap.size/\∀j(h:j<bs.length),w.cell? ⟨b,o+j,none⟩=some (.int .u8 bs[j])):Hs w bs 0 ao:=by grind[Hs]
theorem Tx{o:Nat}(d:n+5*k=bs.length)(c:b<w.heap.size)(hc:∀j(h:j<bs.length),w.cell? ⟨b,o+j,none⟩=some (.int .u8 bs[j]))(a:5<n->a'=some ⟨b,o+5*k+5,none⟩):Hs w bs (k+1) a':=by grind[Hs]
section
attribute[local irreducible]wpList Code.wp Calls Oper.wp wpAnyH
theorem acD(u:cI)(bs:List Int)(w:cB)(hu:dR .u8 w u bs)(D:yr u):
 CP_ 203 #[u] w λe w'=>∃r,e=.returned (.tuple #[r,.int .i64 (N5 (zx bs))])/\vR w' r ((zx bs).getD [])/\dz w w':=by
 obtain⟨i0,hi,d5,Y,d6⟩:=nB NW;obtain⟨ao,cap,rfl,f2,d2,F⟩:=hu;have D:bs.length<=cap:=by obtain⟨a,n,c,h,hn⟩:=D;grind
 have HU:=cq F;clear F;have e3:=cq d2;clear d2;obtain⟨S,hS⟩:=eW (zx bs);rw[<-hS];have b3:=fO w.heap.size w;by_cases T:bs.length%5=0
 case neg=>
  have HN:Hid (S=none):=by unfold Hid;rw[hS,LB (λh=>T h.1)]
  have hq:((bs.length:Int)%5 !=0)=true:=by rw[eO];omega
  clear T;go_enter func203,ntmps203;go_wp2;refine gE (v:=.tuple #[.slice none 0 0,.int .i64 81]) (by simp[results,results203,go_sem]) ae ⟨_,by rw[HN.o];rfl,by rw[HN.o];exact rX _,b3⟩
 case pos=>
 have hq:((bs.length:Int)%5 !=0)=false:=by grind
 by_cases G:¬bs.length<=20480
 . (have HN:Hid (S=none):=by unfold Hid;rw[hS,LB (λh=>G h.2)]);have hl:(20480:Int)<(bs.length:Int):=cw;clear T;go_enter func203,ntmps203;go_wp2;refine gE (v:=.tuple #[.slice none 0 0,.int .i64 81]) (by simp[results,results203,go_sem]) ae ⟨_,by rw[HN.o];rfl,by rw[HN.o];exact rX _,b3⟩
 have e9:bs.length<=20480:=cw;have hl:¬(20480:Int)<(bs.length:Int):=cw;clear G;obtain⟨K,hK⟩:=eW (bs.length/5);have HK:=cq hK;have b6:5*K=bs.length:=cw;have a1:=cq b6;clear b6;have e5:(bs.length:Int)/5=(K:Int):=cw;have f7:K<=4096:=cw;clear hK;have HM:=cq T;clear T;go_enter func203,ntmps203;go_wp2_with (refine Kq (o:=⟨some 20,_,_,_,_,_⟩) _ ae _ _ 294 ae w.heap.size 334 i0 (.agg #[.bool false,.int .i64 0,.int .i64 0]) 3 underlying294 hi d5 Y .i64 .i64 _ K ae ae bQ (by rw[d6];omega) aI (dK _) ?_;intro w2 J f);have b4:dz w w2:=(fO _ _).grown f (dK _) (λk e=>by cases e);clear f e5
 go_loopw [0,4] (λvb v wr=>∃(k n c:Nat)(a:Option Addr),k<=K/\vb=.slice a n c/\n+5*k=bs.length/\n<=c/\Hs w bs k a/\wr.ownsRow w.heap.size 334 3 v ((range k).map (zw bs)).length (jZ ((range k).map (zw bs)))/\Hid (∀j,j<k->okB bs j=true)/\dz w wr)
  (λvb _ _=>lenOf vb)
 exact⟨0,bs.length,cap,ao,fN _,ae,ae,D,Tw HU.o,J,λj h=>absurd h (u' _),b4⟩;clear J b4;obtain⟨k,n,c,a,hk,rfl,hn,c6,c4,l,a2,hbel⟩:=hrel;have d9:=cq c4;clear c4;have g5:=hbel.size;by_cases g2:0<n
 . (have c3:k<K:=by have:=a1.o;omega);(have c5:5<=n:=by have:=a1.o;omega);(obtain⟨b,o,rfl,a4,d⟩:=d9.o cw;obtain⟨Z,x1,x2,x3,x4,⟨l0,l1,l2,l3,l4⟩,c1,hd,U⟩:=aeY e3.o d (k:=k) cw;obtain⟨a',b8,q⟩:=ZK b (o+5*k) n c c5 c6;have a8:Hid (Hs w bs (k+1) a'):=Tx hn a4 d b8;have HN:=cq hn;clear hn;clear b8 d;have z:=cq q;clear q;have d7:=cq c1;clear c1;have HD:=cq hd;clear hd;have b2:=cq U;clear U;have g6:=ZL b (o+5*k) n c c5 c6;have f9:(0:Int)<=5:=by decide);have g1:(5:Int)<=(c:Int):=cw;have c2:5<=c:=cw;have hX:Z<256/\x1<256/\x2<256/\x3<256/\x4<256:=⟨l0,l1,l2,l3,l4⟩;have HX:=cq hX;clear hX;go_wp2_with fail
   go_region_held3 (λ_=>True) (trivial)
    (first|(go_at_call 245;refine(Ko _).mono ?_;rintro e w5 ⟨b5,rfl,d1,-,t⟩)|(go_at_call 29;refine(aef _ _ _ _ Z x1 x2 x3 x4 HX.o c2 _ d1 ?_ ?_).mono ?_;(exact V5 d7.o a4 (Below.step hbel.drew hbel.drew.size t));(exact oS a4 (Below.step hbel.drew hbel.drew.size t).size);rintro e N ⟨g,f4,rfl,⟨e0,e1,e2⟩,hg,f8,b9⟩))
   have A:dz w N:=Below.step (Below.step hbel.drew hbel.drew.size t) (Below.step hbel.drew hbel.drew.size t).size b9;have V:N.ownsRow w.heap.size 334 3 u4 _ _:=kY (kY l.drew t) b9;clear t d1 l hbel;by_cases g9:1<Z
   . (have y:Hid (S=none):=by unfold Hid;rw[hS];exact OJ (by rw[<-HK.o];exact c3) (by rw[b2.o,iC cw];rfl));have d3:(1:Int)<(Z:Int):=cw;clear z;go_wp2;refine gE (v:=.tuple #[.slice none 0 0,.int .i64 81]) (by simp[results,results203,go_sem]) ae ⟨_,by rw[y.o];rfl,by rw[y.o];exact rX _,A⟩
   (have d3:¬(1:Int)<(Z:Int):=cw;have d4:decide (Z<=1)=true:=fQ cw;have f6:=cq d4;clear d4;obtain⟨tb,f1⟩:=c8 (((Z:Int)==1));obtain⟨s,hs⟩:=c8 ((x1:Int)+256*(x2:Int));obtain⟨m,T⟩:=c8 ((x3:Int)+256*(x4:Int));have g4:0<=s/\s<65536:=cw;have g3:0<=m/\m<65536:=cw;have d8:Hid (zw bs k=(tb,s,m)):=by simp_all);(have a9:Hid (okB bs k=jC s m):=by simp_all);rw[hs] at e1;rw[T] at e2;clear hs T;have c7:=World.new_ne N ⟨g,0,none⟩ e0;have g8:IntKind.i64.wrap s=s:=j0 _ cw;have g7:IntKind.i64.wrap m=m:=j0 _ cw;go_wp2_with fail;go_region_held3 (λW=>W.cell? ⟨g,0,none⟩=some (.int .u64 (Z:Int))/\W.cell? ⟨g,1,none⟩=some (.int .u64 s)/\W.cell? ⟨g,2,none⟩=some (.int .u64 m)) (go_keep) (fail);(obtain⟨Q,B⟩:=eW ((N.alloc (.cells #[.bool tb,.int .i64 s,.int .i64 m] 334)).drew);have p0:Q.cell? ⟨N.heap.size,0,none⟩=some (.bool tb):=by simp_all);(have p1:Q.cell? ⟨N.heap.size,1,none⟩=some (.int .i64 s):=by simp_all);(have p2:Q.cell? ⟨N.heap.size,2,none⟩=some (.int .i64 m):=by simp_all);(have c9:Q.heap.size=N.heap.size+1:=by rw[B];simp);(have a3:dz w Q:=by rw[B];exact(A.alloc A.size _).drew);have I:=(V.alloc (.cells #[.bool tb,.int .i64 s,.int .i64 m] 334)).drew;rw[<-B] at I;rw[<-B];have f3:=A.size;clear B A V e0 e1 e2 c7;obtain⟨E,hE⟩:=eW N.heap.size;rw[<-hE] at p0 p1 p2 c9 f3|-;clear hE;obtain⟨cc,F⟩:=c8 (jC s m);have HC:=cq F;clear F;go_wp2_with fail;refine(Es tb s m aS _).mono ?_;rw[HC.o];rintro e w7 ⟨rfl,C⟩;have M:=Below.step a3 a3.size C;have H:=kY I C;have q0:=(C.cell (p:=⟨E,0,none⟩) (by show E<Q.heap.size;omega)).trans p0;have q1:=(C.cell (p:=⟨E,1,none⟩) (by show E<Q.heap.size;omega)).trans p1;have q2:=(C.cell (p:=⟨E,2,none⟩) (by show E<Q.heap.size;omega)).trans p2;clear p0 p1 p2 a3 I c9 f1;cases cc with|false=>(have y:Hid (S=none):=by unfold Hid;rw[hS];exact OJ (by rw[<-HK.o];exact c3) (by rw[a9.o,HC.o]));clear z;go_wp2;refine gE (v:=.tuple #[.slice none 0 0,.int .i64 81]) (by simp[results,results203,go_sem]) ae ⟨_,by rw[y.o];rfl,by rw[y.o];exact rX _,M⟩|true=>(have b1:Hid (∀j,j<k+1->okB bs j=true):=by intro j hj;by_cases e8:j=k;subst e8;rw[a9.o];exact HC.o;exact a2.o j cw);(have HT:Hid ((range (k+1)).map (zw bs)=(range k).map (zw bs)++[(tb,s,m)]):=by unfold Hid;rw[acC,d8.o]);(obtain⟨L,hL⟩:=eW ((range k).map (zw bs));rw[<-hL] at H HT;have b7:L.length=k:=by rw[hL];simp);(clear hL;have e6:L.length+1<=maxLen:=by unfold maxLen;omega);have e7:(L.length+1)*24<=140737488355328:=cw;have f5:=cq b7;clear b7;have a6:=M.size;have q:=z.o;go_wp2_with (first|(at_builtin;refine xq _ ae (.tmp 58) (.tmp 60) 294 ae w.heap.size 334 i0 (.agg #[.bool false,.int .i64 0,.int .i64 0]) 3 24 underlying294 hi d5 Y d6 ae br _ _ _ ae (H.alloc _) ⟨w7.heap.size,0,none⟩ 1 1 [.bool tb,.int .i64 s,.int .i64 m] ae ae (BG ae) (Ah _ _ _) e6 e7 (gO a6 dU) ?_;intro v8 w8 a5 i _));have e4:=(M.alloc a6 _).grown i (M.alloc a6 _).size (λj h=>(H.lt j h).1);clear i q;go_roundw;refine⟨k+1,n-5,c-5,a',cw,ae,by have:=HN.o;omega,cw,a8.out,?_,b1.o,e4⟩;rw[HT.o,ik,ui];exact a5;simp[lenOf];omega
 . (obtain rfl:n=0:=cw;obtain rfl:k=K:=by have:=a1.o;omega);(have O:Hid (S=some ((range k).map (zw bs))):=by unfold Hid;rw[hS,HK.o];exact ZJ HM.o e9 (λj hj=>a2.o j (by rw[HK.o];exact hj)));(have X:∀x∈(range k).map (zw bs),ee x.2.1/\ee x.2.2:=by intro x hx;obtain⟨j,hj,rfl⟩:=fM.1 hx;have h1:=a2.o j (wZ.1 hj);unfold okB UF at h1;rw[aiL] at h1;have h2:=(fm _ _).1 h1.2;unfold ee;omega);have R:=BF l X az;have a7:=cq R;clear R l X;go_wp2;refine gE (v:=.tuple #[u4,.int .i64 0]) (by simp[results,results203,go_sem]) ae ⟨_,by rw[O.o];rfl,by rw[O.o];exact a7.o,hbel⟩
end