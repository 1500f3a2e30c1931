/- Part 11. No conditions. -/
import Derived.Test.YtklligbjoplbgaaGreatNaj
set_option linter.all false
namespace Go.Proofs.YtklligbjoplbgaaGreat
set_option maxRecDepth 100000
set_option maxHeartbeats 64000000
open Go.RowKit Lib List Nat _root_.Go.Proofs.Tryz Go.Shelf
variable {A U:fJ}{a:Act}{K:Act->cB->Prop}{listed:Array Bool}{af:Array Edge}{ops:Array Oper}{b:dS}{c:dD}{Q:Exit->Act->cB->Prop}{g g' g2 g3:gX}{B l l2:cD}{X X':cD->cB->Prop}{O:List O4}{rest:List Oper}{L rs:List R4}{D G G2 M M2 dst fuel k m n t y:Nat}{e f:Nat->cI}{d d2:Option Nat}{P:kS}{s s' s2:Pl}{q:cy}{p:String}{t2 ty:dC}{r v:cI}{W w w' w0 w1 w2:cB}{SS:cB->Prop}
def ez(b:dS)(cC:fh):dS×(List cy×Int):=
 match nq cC with
 |none=>(b,([],141))
 |some _=>match jB b.cE cC with
  |none=>(b,([],172))
  |some i=>if 0<(rV b.cE (di b.cE i).id).length then(b,([],173)) else
   match eu b.cE (pI b.cE (di b.cE i).id) with
   |none=>(b,([],172))
   |some j=>match gM (mr (di b.cE j).cO (eM b.cE (di b.cE i).id)) (di b.cE i).cO with
    |none=>(b,([],131))
    |some zl=>if 4000<zl.length then(b,([],131)) else
     (⟨b.next,(b.cE.set j {di b.cE j with cO:=zl,cT:=(di b.cE i).cT}).eraseIdx i⟩,(jT (di b.cE j).cO (eM b.cE (di b.cE i).id),0))
theorem QL(l:List cy)(st:Nat):(mr l st).length<=l.length:=by grind[mr]
section
attribute[local irreducible]wpList Code.wp Calls Oper.wp wpAnyH
def Hu(b:dD)(A:fJ)(hA:A=ct 2 (dk b))(J:xZ b.t)(cC:fh)(b8:cC.size<=140737488355328)(w:cB)(R:gV w b):
 CP_ 66 #[.agg A,.string cC] w λe w'=>∃B r,e=.returned (.tuple #[.agg B,r,.int .i64 (ez b.t cC).2.2])/\kT w' w.heap.size B (ez b.t cC).1/\gg w' w.heap.size r (ez b.t cC).2.1/\dz w w':=by
 have HA:=cq hA;have HR:=cq R;have C1:=cq λW=>AJ cC b8 W;have C2:=cq λW(a:dz w W)=>wU b A hA J cC b8 W (HR.o.cx a);have C3:=cq λid W(a:dz w W)=>Nq b.l b.sv id J.len W (HR.o.cx a);have C4:=cq λid W(a:dz w W)=>Ti b.l b.sv id J.len W (HR.o.cx a);have O:=cq λid W(a:dz w W)=>uX b.l b.sv id J.len W (HR.o.cx a);have C6:=cq λid W(a:dz w W)=>Dg b.l b.sv id J.len W (HR.o.cx a);have Z:=cq λW(a:dz w W)=>pA b A hA J W (HR.o.cx a);have hd:qe b.l:=J.2;have f8:=J.len;have S:=pF w;clear hA J;obtain⟨T,d⟩:=c8 (ez b.t cC);rw[d];unfold ez at d;rw[show b.t.cE=dJ b.l from ae] at d;obtain⟨sn,a5⟩:=c8 (nq cC);obtain⟨sv,u⟩:=c8 ((sn.getD (qz,qz)));rw[a5,u] at C1;rw[a5] at d;clear a5 u;go_enter func66,ntmps66;cases sn with|none=>have e1:fp 141 (none:Option (fh×fh))=141:=rfl;rw[e1] at C1;subst d;go_wp2_with (first|refine je S (C1.o _) λW S=>?_|refine zI S (Z.o _ S.b) λW B c HB q o S=>?_|(refine lC ?_;exact⟨_,_,ae,⟨c,ae,q.o,S.iF o.o⟩,gg.nil _ _,S.b⟩)|refine eR ?_|refine ey λW S=>?_)|some sn=>
 have e1:fp 141 (some sn)=0:=rfl;rw[e1] at C1;simp only at d;obtain⟨ni,s⟩:=c8 (jB (dJ b.l) cC);rw[show b.t.cE=dJ b.l from ae,s] at C2;rw[s] at d;cases ni with|none=>subst d;simp only[kE] at C2;clear s;go_wp2_with (first|refine je S (C1.o _) λW S=>?_|refine je S (C2.o _ S.b) λW S=>?_|refine zI S (Z.o _ S.b) λW B c HB q o S=>?_|(refine lC ?_;exact⟨_,_,ae,⟨c,ae,q.o,S.iF o.o⟩,gg.nil _ _,S.b⟩)|refine eR ?_|refine ey λW S=>?_)|some i=>
 simp only[kE] at C2 d;obtain⟨x,hx⟩:=uB s;have f9:=(mQ.1 hx).1;have f3:(i:Int)<(b.l.length:Int):=cw;have f4:¬(i:Int)<0:=cw;have hg:di (dJ b.l) i=x.tocR:=kF hx;rw[hg] at d;obtain⟨k,l,H⟩:=zJ R cw;have R9:=R.cE H;have b3:=cq R9;have Q:=cq (R9.at hx);have d8:=cq hx;have n:Hid (dk b 1=.slice (some ⟨k,l,none⟩) b.l.length b.cap):=cq (by rw[<-H];rfl);have u:b.sv=.slice (s_ k l) b.l.length b.cap:=by unfold dD.sv;rw[H]
 rw[u] at C3 C4 O C6;have C3:=cq (C3.o x.id);have C4:=cq (C4.o x.id);have C6:=cq (C6.o x.id);obtain⟨ch,b5⟩:=c8 (rV (dJ b.l) x.id);rw[b5] at C3 d;clear s hx hg H u b5;go_upto_region 8 with(first|refine je S (C1.o _) λW S=>?_|refine je S (C2.o _ S.b) λW S=>?_|refine Db S 1 ae 1 (v:=.slice (s_ k l) b.l.length b.cap) n.o ?_|refine eR ?_|refine ey λW S=>?_);refine dL S cX λW S=>?_;refine cJ 0 (cZ w.heap.size 1) ?_;refine fW 1 (.slice (s_ k l) b.l.length b.cap) ae (sh S 1 (λ_ h=>h) ae 1 n.o pR ae rk) ?_;refine cJ 2 _ ?_;refine cJ 3 (cZ k (l+i*11)) ?_;refine cJ 4 (cZ k (l+i*11)) ?_;refine fW 5 (.int .u64 x.id) ae (fR (λw h=>by obtain⟨_,S⟩:=h;exact(Q.o.cx S.b).c0) ae fg) ?_;refine jQ 6 λK f=>?_;go_wp2_with fail;refine ag (C3.o _ S.b) λr W⟨ho,a⟩=>?_;obtain⟨ra,rc,rfl⟩:=cS ho;replace S:=S.cx a;clear a ho;refine fC f ?_;clear f K;refine cJ 7 (.int .i64 ch.length) ?_;refine cJ 8 (.bool (decide (0<(ch.length:Int)))) ?_;refine pz ?_;by_cases h0:0<ch.length
 . rw[cL h0] at d;subst d;have h1:(0:Int)<(ch.length:Int):=cw;go_wp2_with first|refine zI S (Z.o _ S.b) λW B c HB q o S=>?_|(refine lC ?_;exact⟨_,_,ae,⟨c,ae,q.o,S.iF o.o⟩,gg.nil _ _,S.b⟩)|refine eR ?_|refine ey λW S=>?_
 . rw[cM h0] at d;have h1:¬(0:Int)<(ch.length:Int):=cw;obtain⟨nx,c6⟩:=c8 (pI (dJ b.l) x.id);have O:=cq (O.o nx);rw[c6] at C4 d;obtain⟨pj,L⟩:=c8 (eu (dJ b.l) nx);rw[L] at O d;clear c6 h0;go_upto_region 10 with(fail)
   cases pj with
   |none=>
    subst d;simp only[kE] at O;clear L;refine dL S cX λW S=>?_;refine cJ 0 (cZ w.heap.size 1) ?_;refine fW 1 (.slice (s_ k l) b.l.length b.cap) ae (sh S 1 (λ_ h=>h) ae 1 n.o pR ae rk) ?_;refine cJ 2 (cZ w.heap.size 1) ?_;refine fW 3 (.slice (s_ k l) b.l.length b.cap) ae (sh S 1 (λ_ h=>h) ae 1 n.o pR ae rk) ?_;refine cJ 4 _ ?_;refine cJ 5 (cZ k (l+i*11)) ?_;refine cJ 6 (cZ k (l+i*11)) ?_;refine fW 7 (.int .u64 x.id) ae (fR (λw h=>by obtain⟨_,S⟩:=h;exact(Q.o.cx S.b).c0) ae fg) ?_;refine jQ 8 λK f=>?_
    go_wp2_with fail
    refine je S (C4.o _ S.b) λW S=>?_;refine fC f ?_;clear f K;refine jQ 9 λK f=>?_
    go_wp2_with fail
    refine je S (O.o _ S.b) λW S=>?_;refine fC f ?_;clear f K;refine cJ 10 _ ?_;refine pz ?_
    go_wp2_with (first
   |refine zI S (Z.o _ S.b) λW B c HB q o S=>?_
   |(refine lC ?_;exact⟨_,_,ae,⟨c,ae,q.o,S.iF o.o⟩,gg.nil _ _,S.b⟩)
   |refine eR ?_
   |refine ey λW S=>?_)
   |some j=>
    obtain⟨g1,y,hy,-⟩:=jU L;have b9:di (dJ b.l) j=y.tocR:=kF hy;simp only[b9,kE] at d O;have f5:(j:Int)<(b.l.length:Int):=cw;have f6:¬(j:Int)<0:=cw;have e3:=cq hy;have HY:=cq (R9.at hy);have a8:=kt hy;have a6:=kt d8.o;have e7:=(hd.at a8).1;have e6:=(hd.at a6).1;obtain⟨fl,b7⟩:=c8 (eM (dJ b.l) x.id);rw[b7] at C6 d;have C7:=cq λW(a:dz w W)=>M9 y.cO y.dv fl W cw ((b3.o.cx a).2 y a8);have c7:=QL y.cO fl;obtain⟨rs,c9⟩:=c8 (mr y.cO fl);obtain⟨gn,c1⟩:=c8 (jT y.cO fl);rw[c9] at C7 d c7;rw[c1] at C7 d;have Y:=cq λv W(a:dz w W)R1=>Nb rs x.cO v x.dv W cw cw R1 ((b3.o.cx a).2 x a6);obtain⟨mg,c4⟩:=c8 (gM rs x.cO);rw[c4] at Y d;clear L hy b9 a8 a6 e7 e6 b7 c9 c1 c4 c7;refine dL S cX λW S=>?_;refine cJ 0 (cZ w.heap.size 1) ?_;refine fW 1 (.slice (s_ k l) b.l.length b.cap) ae (sh S 1 (λ_ h=>h) ae 1 n.o pR ae rk) ?_;refine cJ 2 (cZ w.heap.size 1) ?_;refine fW 3 (.slice (s_ k l) b.l.length b.cap) ae (sh S 1 (λ_ h=>h) ae 1 n.o pR ae rk) ?_;refine cJ 4 _ ?_;refine cJ 5 (cZ k (l+i*11)) ?_;refine cJ 6 (cZ k (l+i*11)) ?_;refine fW 7 (.int .u64 x.id) ae (fR (λw h=>by obtain⟨_,S⟩:=h;exact(Q.o.cx S.b).c0) ae fg) ?_;refine jQ 8 λK f=>?_
    go_wp2_with fail
    refine je S (C4.o _ S.b) λW S=>?_;refine fC f ?_;clear f K;refine jQ 9 λK f=>?_
    go_wp2_with fail
    refine je S (O.o _ S.b) λW S=>?_;refine fC f ?_;clear f K;refine cJ 10 _ ?_;refine pz ?_
    go_upto_region 13 with(fail)
    refine dN S cX [⟨w.heap.size,99,2,dk b⟩] Be λW S=>?_;refine cJ 0 (cZ w.heap.size 1) ?_;refine fW 1 (.slice (s_ k l) b.l.length b.cap) ae (fR (λw h=>by rw[cu.cell (h.row 0 ae) (i:=1) pR];exact fK some n.o) ae rk) ?_;refine cJ 2 _ ?_;refine cJ 3 (cZ k (l+j*11)) ?_;refine cJ 4 (cZ k (l+j*11+10)) ?_;refine fW 5 (y.dv) ae (fR (λw h=>(HY.o.cx h.fr.cx).c10) ae nk) ?_;refine cJ 6 (cZ w.heap.size 1) ?_;refine fW 7 (.slice (s_ k l) b.l.length b.cap) ae (fR (λw h=>by rw[cu.cell (h.row 0 ae) (i:=1) pR];exact fK some n.o) ae rk) ?_;refine cJ 8 _ ?_;refine cJ 9 (cZ k (l+i*11)) ?_;refine cJ 10 (cZ k (l+i*11)) ?_;refine fW 11 (.int .u64 x.id) ae (fR (λw h=>(Q.o.cx h.fr.cx).c0) ae fg) ?_;refine jQ 12 λK f=>?_
    go_wp2_with fail
    refine je S (C6.o _ S.b) λW S=>?_;refine fC f ?_;clear f K;refine jQ 13 λK f=>?_
    go_wp2_with fail
    refine(C7.o _ S.b).mono ?_;rintro e W ⟨r1,r2,rfl,a3,a4,a⟩;have a1:=cq a3.sl;obtain⟨e8,e9,rfl⟩:=cS a3;obtain⟨f1,f2,rfl⟩:=cS a4;replace S:=S.gm a a4 ae ae;clear a a3 a4;refine fC f ?_;clear f K;refine cJ 14 _ ?_;refine cJ 15 (.slice e8 rs.length e9) ?_;refine cJ 16 (.slice f1 gn.length f2) ?_;refine cJ 17 _ ?_;refine cJ 18 _ ?_;refine pz ?_;cases mg with
    |none=>
     have e2:fp 131 (none:Option (List cy))=131:=rfl;rw[e2] at Y;subst d
     go_wp2_with first|(first|refine jo 87 107 86 ((Q.o.cx S.b).c10) ?_)|(refine ag (Y.o _ _ S.b a1.o) λr W⟨ho,a⟩=>?_;replace S:=S.cx a;clear ho a)|refine zI S (Z.o _ S.b) λW B c HB q o S=>?_|(refine lC ?_;exact⟨_,_,ae,⟨c,ae,q.o,S.iF o.o⟩,gg.nil _ _,S.b⟩)|refine eR ?_|refine ey λW S=>?_
    |some al=>
    have e2:fp 131 (some al)=0:=rfl;rw[e2] at Y;simp only[ku] at Y d;by_cases h4:4000<al.length
    . rw[cL h4] at d;have h5:(4000:Int)<(al.length:Int):=cw;subst d
      go_wp2_with first|(first|refine jo 87 107 86 ((Q.o.cx S.b).c10) ?_)|(refine ag (Y.o _ _ S.b a1.o) λr W⟨ho,a⟩=>?_;obtain⟨M,N,rfl⟩:=cS ho;replace S:=S.cx a;clear ho a)|refine zI S (Z.o _ S.b) λW B c HB q o S=>?_|(refine lC ?_;exact⟨_,_,ae,⟨c,ae,q.o,S.iF o.o⟩,gg.nil _ _,S.b⟩)|refine eR ?_|refine ey λW S=>?_
    . rw[cM h4] at d;have h5:¬(4000:Int)<(al.length:Int):=cw;have HT:=cq d;clear h4 d
      go_upto_region 18 with(first|(first|refine jo 87 107 86 ((Q.o.cx S.b).c10) ?_)|(refine ag (Y.o _ _ S.b a1.o) λr W⟨ho,a⟩=>?_;obtain⟨M,N,rfl⟩:=cS ho;have d5:=cq (show qg w.heap.size ⟨{y.tocR with cO:=al,cT:=x.cT},M,N⟩ from λhn b a=>gO S.fr.size ((qW.of (x:=⟨{y.tocR with cO:=al,cT:=x.cT},M,N⟩) ho).2 hn b a));replace S:=S.zH (y:=⟨{y.tocR with cO:=al,cT:=x.cT},M,N⟩) a ho;clear a ho)|(refine ag (Z.o _ S.b) λB W5⟨⟨⟨cn,m,ca,F⟩,hB,hc,ho⟩,a⟩=>?_;obtain⟨b6,I⟩:=dS.mk.inj hc;simp only at b6 I;subst b6;have c5:m.length=b.l.length:=(by have h9:=fK length I;rwa [gj,gj] at h9);obtain⟨g,b4⟩:=tq ho akh;simp only at b4;subst b4;have b1:=cq c5;have HB:=cq hB;have HM:=cq I;have o:=cq (S.fresh ho);replace S:=S.jv a ho;clear c5;change St _ _ _ _ (⟨109,11,.slice (s_ g 0) m.length F,m.length,ij m⟩::_) _ _ at S;clear a hB hc ho I)|refine eR ?_|refine ey λW S=>?_)
      have a2:j<m.length:=by have:=b1.o;omega
      have f7:(j:Int)<(m.length:Int):=cw;obtain⟨z,hz⟩:=c8 (m[j]);have d2:z.tocR=y.tocR:=by
       have h9:(dJ m)[j]?=(dJ b.l)[j]?:=by rw[HM.o]
       rw[l9,l9,iz a2,hz,e3.o] at h9;exact ve h9
      have HZ:=cq hz;have e4:=cq d2;clear hz d2;refine dN S cX [⟨W5.heap.size,99,2,dk ⟨b.next,m,s_ g 0,F⟩⟩] Be λW S=>?_;refine cJ 0 (cZ W5.heap.size 1) ?_;refine cJ 1 (.slice (s_ g 0) m.length F) ?_;refine cJ 2 _ ?_;refine cJ 3 (cZ W5.heap.size 1) ?_;refine cJ 4 (.slice (s_ g 0) m.length F) ?_;refine cJ 5 _ ?_;refine cJ 6 _ ?_;refine cJ 7 _ ?_;refine cJ 8 (cZ k (l+i*11)) ?_;refine cJ 9 (cZ k (l+i*11+4)) ?_;refine fW 10 (.int .u64 x.cT) ae (fR (λw h=>(Q.o.cx h.fr.cx).c4) ae fg) ?_;refine cJ 11 (cZ g (j*11)) ?_;refine cJ 12 (cZ g (j*11+10)) ?_;refine jQ 13 λK f=>?_;refine Lj S 0 ae ae (j*11+10) (v:=.slice M al.length N) (by show j*11+10<m.length*11;omega) ae ae ae nk λW S=>?_;refine fC f ?_;clear f K;refine cJ 14 (cZ g (j*11)) ?_;refine cJ 15 (cZ g (j*11+4)) ?_;refine jQ 16 λK f=>?_;refine Lj S 0 ae ae (j*11+4) (v:=.int .u64 x.cT) (by show j*11+4<m.length*11;omega) ae ae ae fg λW S=>?_;refine fC f ?_;clear f K;refine pz ?_;obtain⟨y1,a7⟩:∃y1:dg,y1=⟨{z.tocR with cO:=al},M,N⟩:=⟨_,ae⟩;obtain⟨D,C⟩:∃D:dg,D=⟨{y.tocR with cO:=al,cT:=x.cT},M,N⟩:=⟨_,ae⟩;have d1:D=⟨{z.tocR with cO:=al,cT:=x.cT},M,N⟩:=by rw[C,e4.o]
      have t:((ij m).set (j*11+10) (.slice M al.length N)).set (j*11+4) (.int .u64 x.cT)=ij (m.set j D):=by
       rw[uC a2 HZ.o 10 cw _ y1 (λj hj=>by rw[a7];rcases j with(_|_|_|_|_|_|_|_|_|_|_|j)<;>first|rfl|omega),
        uC (x:=y1) (by rw[wu];exact a2) aki 4 cw _ D (λj hj=>by rw[a7,d1];rcases j with(_|_|_|_|_|_|_|_|_|_|_|j)<;>first|rfl),set_set]
      obtain⟨E,p⟩:=c8 (m.set j D);have c2:m.length=E.length:=by rw[<-p,wu]
      have X:dJ E=(dJ b.l).set j {y.tocR with cO:=al,cT:=x.cT}:=by
       rw[<-p,show dJ (m.set j D)=(dJ m).set j D.tocR by unfold dJ;rw[map_set],HM.o,C]
      have V:∀v∈E,qg w.heap.size v:=λv hv=>by
       rw[<-p] at hv;rcases wq hv with h|h
       . exact o.o v h
       . rw[h,C];exact d5.o
      have U:∀v∈E,v∈m∨v=D:=λv hv=>wq (by rw[p];exact hv);rw[p] at t;have b2:=cq t;have d9:=cq C;have d6:=cq c2;have d7:=cq X;have d4:=cq V;have d3:=cq U;replace S:=S.Dx (X':=λB w=>IY D B w/\nE m B w) (λB w h=>by rw[d9.o];exact⟨h.1.2,h.2⟩) ((AE D).and (iq m)).k8;simp only[z'] at S;rw[b2.o] at S;have w1:IntKind.i64.wrap ((i:Int)+1)=((i+1:Nat):Int):=by rw[j0 _ cw];omega
      have e5:i<m.length:=by have:=b1.o;omega
      have c3:(E.eraseIdx i).length=m.length-1:=by rw[length_eraseIdx,cL cw];omega
      have a9:=cq c3;clear c3 t a7 C d1 p c2 X V U
      go_wp2_with first|(first|refine jl 118 97 117 S 0 1 (.slice (s_ g 0) m.length F) ?_)|(refine ah (Ca E g F m.length i (i+1) w.heap.size d6.o.symm e5 ae _ S.o0) λW6⟨ho,a⟩=>?_;replace S:=S.erased (j:=0) ae ho a;clear ho a)|(refine vU S 0 ae 1 (dk ⟨b.next,E.eraseIdx i,s_ g 0,F⟩) (λj hj=>by have hj:j<2:=hj;rcases j with(_|_|j);rfl;show Value.slice _ (E.eraseIdx i).length _=_;rw[a9.o];rfl;omega) pR ae ae ae rk λW S=>?_;obtain⟨G,hG⟩:=eW (ct 2 (dk ⟨b.next,E.eraseIdx i,s_ g 0,F⟩));have HG:=cq hG;clear hG)|(refine lC ?_;rw[<-HT.o];exact⟨_,_,ae,⟨⟨b.next,E.eraseIdx i,s_ g 0,F⟩,ae,by unfold dD.t;rw[Ox,d7.o],⟨by have h9:=S.o0;unfold dD.sv;rw[a9.o];exact h9,λv hv=>⟨by rcases d3.o v (BB hv) with h|h;exact(S.x.2 v h).1;rw[h];exact S.x.1.1,d4.o v (BB hv)⟩⟩⟩,S.o1,S.b⟩)|refine eR ?_|refine ey λW S=>?_
end
section
theorem kK.obj{b:Nat}(h:kK d X)(ho:fT t=true):kK d (λB w=>X B w/\cu w b t n f):=
 ⟨λa c=>⟨h.cx a.1 c,cu.cx a.2 c⟩,λa c=>⟨h.add a.1 c,a.2⟩,λa l=>⟨h.mono a.1 l,a.2⟩,
  λa j c g k i=>⟨h.but a.1 j c g k i,cu.but a.2 c λe=>by rw[<-e,cu.ty a.2] at g;grind⟩,λa e=>h.dev a.1 e⟩
def St.uZ(S:St w0 d l L O X w){b:Nat}(a:cu w b t n f)(ho:fT t=true):St w0 d l L O (λB w=>X B w/\cu w b t n f) w:=
 ⟨S.fr,S.row,S.own,S.lo,S.nd,⟨S.x,a⟩,S.k8.obj ho⟩
theorem St.LO(h:St w0 d l L O X w)(f:Fr d2 l2 w w')(b:∀D,d2=some D->d=some D)(i:∀k∈l2,k∈l∨w0.heap.size<=k)(m:kK d X')(n:X' (dM L O) w'):St w0 d l L O X' w':=by
 refine⟨h.fr.step f b i,λr j=>?_,λo ho=>?_,h.lo,h.nd,n,m⟩
 . have a:=h.row r j;cases c:d2 with
   |none=>subst c;exact akI
   |some D=>
    subst c;rcases a.2.2 with h1|h1
    . grind[cu.fr]
    . exact⟨cu.frX a.1 f (h1 D (b D ae)) (.inl a.2.1),a.2.1,.inr λp e=>by
       rcases ve (e.symm.trans (b D ae)) with rfl
       grind[Fr.abm,cu.lt]⟩
 have q:=h.own o ho;grind[Aq]
theorem St.wrote(h:St w0 d l L O X w)(a:cu w G t n f)(ho:fT t=true)(b:iU G w w')(j:G∈l∨w0.heap.size<=G)(c:kK d X')(g:X' (dM L O) w'):St w0 d l L O X' w':=
 h.LO (d2:=none) (l2:=[G]) (Fr.qt b (cu.ty a) ho (eV.2 ae)) (λD e=>by cases e) (λk i=>by grind) c g
end
section
variable {x:Nat}
def acM(b:cu w G t n f)(i:Nat){q:Operand}(o:i<n)(l:a.eval (.tmp x)=.pointer (some ⟨G,i,none⟩))(m:a.eval q=v)(k:v.oneCell'=true)(e:kB P ty)(g:Nat->cI)(c:∀j,j<n->g j=if j=i then v else f j)(h:∀W,iU G w W->cu W G t n g->wpList P ops Q rest (a.put none undef) W):wpList P ops Q (⟨none,.store ty (.tmp x) q,t2,p,af,none⟩::rest) a w:=
 Ax (mO b cw) l m k e (h _ (qS _ _ _ _) ((cu.set b i v).congr λj d=>(c j d).symm))
theorem agW(d:cu w G t n f)(o:Nat)(u:o+m<=n)(r:a.eval (.tmp x)=.pointer (some ⟨G,o,none⟩))(s:a.eval (.tmp y)=.agg A)(c:A=ct m e)(q:jF P ty m)(b:∀i,(e i).oneCell'=true)(g:Nat->cI)(k:∀j,j<n->g j=if o<=j/\j<o+m then e (j-o) else f j)(h:∀W,iU G w W->cu W G t n g->wpList P ops Q rest (a.put none undef) W):wpList P ops Q (⟨none,.store ty (.tmp x) (.tmp y),t2,p,af,none⟩::rest) a w:=by
 subst c;refine wpList_store_mid (op:=⟨none,.store ty (.tmp x) (.tmp y),t2,p,af,none⟩) ae ty (.tmp x) (.tmp y) ae G o (ct m e) r s (by grind[cF,mO]) (by rw[cF];exact q.2) (nu e b) (h _ (iU.setCells _ _ _ _) ?_);refine cu.congr (cu.setCells _ o d) λj l=>?_;rw[k j l];unfold KC;rw[mq,cF];by_cases hc:o<=j/\j<o+m;rw[cL hc,cL hc];show(ct m e).toList.getD (j-o) _=e (j-o);rw[tY,mj,cU,cL cw];rfl
 grind
end
def pC(G:Nat)(g:gX)(D M:Nat)(s:Pl):cD->cB->Prop:=λB w=>((Bq g.P D M s B w/\cu w G 145 11 (uF g))/\qA g.b.sv g.b.l B w)/\xL 106 3 g.hv g.dx.length (gY g.dx) B w
def gw(G:Nat)(g:gX)(D M:Nat)(s:Pl):kK (some D) (pC G g D M s):=
 (((dw g.P D M s).obj (t:=145) (n:=11) (b:=G) (f:=uF g) ae).still (eT g.b.sv g.b.l)).still (eI 106 3 g.hv _ _ ae ae)
def pC.at(h:pC G g D M s B w):dF w G g D M s:=⟨h.1.1.2,h.1.1.1,h.1.2.sl,h.2.1⟩
def dF.x(h:dF w G g D M s):pC G g D M s [] w:=⟨⟨⟨h.kq,h.row⟩,fE.x h.wA⟩,⟨h.dx,λ_ _ _=>by simp⟩⟩
def SEG(w0:cB)(d:Option Nat)(l:cD)(rs:List R4)(G:Nat)(g:gX):cB->Prop:=λW=>∃L O X,St w0 d l L O X W/\(∀r∈rs,r∈L)/\cu W G 145 11 (uF g)
def SEG.row(h:SEG w0 d l rs G g W)(k:Nat){r:R4}(a:rs[k]?=some r):cu W r.b r.t r.n r.f:=by obtain⟨L,O,X,S,b,_⟩:=h;exact(S.row r (b r (kt a))).1
def SEG.I8(h:SEG w0 d l rs G g W):cu W G 145 11 (uF g):=by obtain⟨L,O,X,S,_,a⟩:=h;exact a
theorem SEG.cell{w0 W:cB}{d:Option Nat}{l:cD}{rs:List R4}{G:Nat}{g:gX}(h:SEG w0 d l rs G g W)(i:Nat)(a:i<11):W.cell? ⟨G,i,none⟩=some (uF g i):=cu.cell h.I8 a
def St.acN(S:St w0 d l L (⟨109,11,c.sv,c.l.length,ij c.l⟩::O) (λB w=>X B w/\nE c.l B w) w)(b:∀x∈c.l,qg w0.heap.size x):tp w w0.heap.size c:=
 ⟨S.o0,λx a=>⟨(S.x.2 x a).1,b x a⟩⟩
def LP(S:St w0 d l L O X w){id:Nat}(c:P.follows .mixedOrders=true)(rs:List R4)(e:∀r∈rs,r∈L)(b:cu w G 145 11 (uF g))(h:∀W,St w0 d l L O X W->wpAnyH P .any ops Q (SEG w0 d l rs G g) ops.size (Array.replicate ops.size false) a W):(Code.region id ops true).wp P Q a w:=
 wp_region_held_drew c ⟨L,O,X,S.drew,e,b.cx ((fO _ _).drew)⟩ λ_=>h _ S.drew
def Z0(g:gX)(c:dD):∀j,j<11->uF {g with b:=c} j=if 1<=j/\j<1+2 then dk c (j-1) else uF g j:=by intro j a;unfold uF;rcases j with(_|_|_|_|j)<;>first|rfl
section
attribute[local irreducible]wpList Code.wp Calls Oper.wp wpAnyH
def r5(G D M:Nat)(g:gX)(s:Pl)(b:dD)(A:fJ)(i:A=ct 2 (dk b))(d:xZ b.t)(w:cB)(h:dF w G g D M s)(R:gV w b):
 CP_ 55 #[.pointer (some ⟨G,0,none⟩),.agg A] w λe w'=>∃c:dD,e=.returned (.tuple #[])/\c.t=b.t/\dF w' G {g with b:=c} D M s/\tp w' w.heap.size c/\Fr none [G] w w':=by have y:=cq i;have a:=cq h;have p:=cq λW(f:Fr none [G] w W)=>yZ b A i d W (show fE W b.sv b.l from(show fE w b.sv b.l from R).fr f);have S:=St.start w none [G] (vt.obj (t:=145) (n:=11) (b:=G) (f:=uF g) ae) ⟨gI,h.row⟩;clear h i d R;go_enter func55,ntmps55;go_wp2_with (first|(go_at_call 102;refine zI S (p.o _ S.fr) λW B c q r u S=>?_)|((with_reducible refine uV 99 8 6 ?_);refine agW S.x.1.2 1 (m:=2) cw ae ae q.o mP (eY _) (uF {g with b:=c}) (Z0 g c) ?_;intro z l o;replace S:=S.wrote (X':=λB w=>(True/\cu w G 145 11 (uF {g with b:=c}))/\nE c.l B w) S.x.1.2 ae l (.inl (eV.2 ae)) (((vt.obj (t:=145) (n:=11) (b:=G) (f:=uF {g with b:=c}) ae).still (iq c.l))) ⟨⟨gI,o⟩,(iq c.l).fr S.x.2 (Fr.qt l (cu.ty S.x.1.2) ae (eV.2 ae))⟩;clear o)|refine eR ?_|refine ey λW S=>?_);refine El (ug ae _ _ _) ae ?_;have d:=S.fr;have x:g.P∉ [G]:=λj=>qh (cu.ty a.o.kq.row) (cu.ty a.o.row) jR (eV.1 j);have v:M∉ [G]:=λj=>qh (cu.ty a.o.kq.map) (cu.ty a.o.row) jR (eV.1 j);have k:=S.acN u.o;exact⟨c,ae,r.o,⟨S.x.1.2,a.o.kq.fr d x v,k.sl,(show cK w 106 3 g.hv g.dx.length (gY g.dx) from a.o.dx).fr d ax ae⟩,k,d⟩
end
structure GT where
 b:dS
 dx:List cy
 ub:qi
 s:Pl
def gX.gt(g:gX)(s:Pl):GT:=⟨g.b.t,g.dx,g.ub,s⟩
def rQ(x:GT)(m:Pl×(cy×(List cy×Int))):qi:=⟨iA x.ub.lD,m.1.cA,m.2.1,40,m.1.dv.n⟩
def uH(x:GT)(m:Pl×(cy×(List cy×Int))):GT×Int:=
 if m.2.2.2≠0 then({x with s:=m.1},m.2.2.2) else
 if(eS m.1.dv (rQ x m)).2≠0 then({x with s:={m.1 with dv:=(eS m.1.dv (rQ x m)).1}},(eS m.1.dv (rQ x m)).2)
 else({x with dx:=m.2.2.1,ub:=rQ x m,s:=nM {m.1 with dv:=(eS m.1.dv (rQ x m)).1}},0)
def mA(x:GT):GT×Int:=uH x (gi x.s x.b x.dx)
def yb(w w':cB)(G D M:Nat)(g:gX)(r:GT×Int)(e:Ending):Prop:=
 ∃g2 s2,e=.returned (.int .i64 r.2)/\g2.P=g.P/\dF w' G g2 D M s2/\g2.gt s2=r.1/\(eU g.dx->eU g2.dx)/\Fr (some D) [G,M,g.P] w w'
def pC.pl(h:pC G g D M s B w)(f:Fr d l w w')(a:G∉l)(b:ej w' g.P D M s'):pC G g D M s' B w':=
 ⟨⟨⟨b,cu.fr h.1.1.2 f au (.inr a)⟩,(eT g.b.sv g.b.l).fr h.1.2 f⟩,(eI 106 3 g.hv _ _ ae ae).fr h.2 f⟩
def pC.NF(h:pC G g D M s B w):G≠g.P/\G≠M/\g.P≠M:=
 ⟨qh (cu.ty h.1.1.2) (cu.ty h.1.1.1.row) jR,qh (cu.ty h.1.1.2) (cu.ty h.1.1.1.map) jR,qh (cu.ty h.1.1.1.row) (cu.ty h.1.1.1.map) jR⟩
section
def St.af1(S:St w0 (some D) l L O (pC G g D M s) w)(f:Fr d2 l2 w w')(c:∀a,d2=some a->some D=some a)(d:∀k∈l2,k∈l∨w0.heap.size<=k)(b:G∉l2)(e:ej w' g.P D M s'):St w0 (some D) l L O (pC G g D M s') w':=
 S.call f c d (gw G g D M s') λB h=>h.pl f b e
theorem St.Wb(S:St w0 (some D) l L O (pC G g D M s) w)(h:dF w' G {g with b:=c} D M s)(o:tp w' w.heap.size c)(f:Fr none [G] w w')(q:G∈l∨w0.heap.size<=G):St w0 (some D) l L O (pC G {g with b:=c} D M s) w':=by refine S.LO (d2:=none) (l2:=[G]) f (λD e=>by cases e) (λk p=>by grind) (gw G _ D M s) ⟨⟨⟨h.kq,h.row⟩,⟨⟨h.wA.1,λi b a d=>?_⟩,λx j=>⟨(o.2 x j).1,λi b a d=>?_⟩⟩⟩,(eI 106 3 g.hv _ _ ae ae).fr S.x.2 f⟩;have m:=(o.1.lt b a).1;have n:=S.lt b d;omega;have m:=(o.2 x j).2 i b a;have n:=S.lt b d;omega
end
def LQ(G:Nat)(g:gX)(D M:Nat)(s:Pl):cD->cB->Prop:=λB w=>(Bq g.P D M s B w/\cu w G 145 11 (uF g))/\qA g.b.sv g.b.l B w
def LR(G:Nat)(g:gX)(D M:Nat)(s:Pl):kK (some D) (LQ G g D M s):=
 ((dw g.P D M s).obj (t:=145) (n:=11) (b:=G) (f:=uF g) ae).still (eT g.b.sv g.b.l)
def LQ.NF(h:LQ G g D M s B w):G≠g.P/\G≠M/\g.P≠M:=
 ⟨qh (cu.ty h.1.2) (cu.ty h.1.1.row) jR,qh (cu.ty h.1.2) (cu.ty h.1.1.map) jR,qh (cu.ty h.1.1.row) (cu.ty h.1.1.map) jR⟩
section
variable {x:Nat}
def St.acO(S:St w0 (some D) l L O (LQ G g D M s) w)(f:G∈l∨w0.heap.size<=G)(a:iU G w w')(e:g'.P=g.P)(d:g'.b=g.b)(i:cu w' G 145 11 (uF g')):St w0 (some D) l L O (LQ G g' D M s) w':=by
 have b:Fr none [G] w w':=Fr.qt a (cu.ty S.x.1.2) ae (eV.2 ae);have c:=S.x.NF;refine S.wrote S.x.1.2 ae a f (LR G g' D M s) ⟨⟨?_,i⟩,?_⟩;show ej w' g'.P D M s;rw[e];exact ej.fr S.x.1.1 b (λh=>c.1 (eV.1 h).symm) (λh=>c.2.1 (eV.1 h).symm)
 rw[d];exact(eT _ _).fr S.x.2 b
def agY(S:St w0 (some D) l L O (LQ G g D M s) w)(c:G∈l∨w0.heap.size<=G)(b:List cy)(ho:Option Addr)(hc:Nat){q:Operand}(e:a.eval (.tmp x)=.pointer (some ⟨G,3,none⟩))(f:a.eval q=.slice ho b.length hc)(d:kB P ty)(h:∀W,St w0 (some D) l L O (LQ G {g with dx:=b,ho:=ho,hc:=hc} D M s) W->K (a.put none undef) W):Oper.wp P ⟨none,.store ty (.tmp x) q,t2,p,af,none⟩ a w K Q:=by refine XH (mO S.x.1.2 (n:=1) cw) e f ae d (h _ ?_);refine S.acO c (qS _ _ _ _) ae ae ((cu.set S.x.1.2 3 _).congr λj i=>?_);unfold uF;rcases j with(_|_|_|_|j)<;>first|rfl
theorem ai9(S:St w0 (some D) l L O (LQ G g D M s) w)(c:G∈l∨w0.heap.size<=G)(u:qi)(e:a.eval (.tmp x)=.pointer (some ⟨G,4,none⟩))(f:a.eval (.tmp y)=.agg U)(b:U=ct 7 (kb u))(d:jF P ty 7)(h:∀W,St w0 (some D) l L O (LQ G {g with ub:=u} D M s) W->K (a.put none undef) W):Oper.wp P ⟨none,.store ty (.tmp x) (.tmp y),t2,p,af,none⟩ a w K Q:=by
 subst b;refine wp_store_mid (op:=⟨none,.store ty (.tmp x) (.tmp y),t2,p,af,none⟩) ty (.tmp x) (.tmp y) ae G 4 (ct 7 (kb u)) e f (by rw[cF];exact mO S.x.1.2 cw) (by rw[cF];exact d.2) (nu _ (se u)) (h _ ?_);refine S.acO c (iU.setCells _ _ _ _) ae ae (cu.congr (cu.setCells _ 4 S.x.1.2) λj i=>?_);unfold KC;rw[mq,cF];by_cases hc:4<=j/\j<4+7
 . rw[cL hc];refine(show(ct 7 (kb u)).toList.getD (j-4) _=kb u (j-4) from by
    rw[tY,mj,cU,cL cw];rfl).trans ?_
   unfold uF;grind
 rw[cM hc];unfold uF;split;rfl;split;rfl;split;rfl;omega
end
theorem Z2(d:Dv):(eG d).ops<=d.ops+1:=by unfold eG;grind
theorem Wc(d:Dv)(i:Int):(fZ d i).1.ops<=d.ops+1:=Z2 d
theorem TB(s:Pl)(q:cy)(i:Int):(py s q i).1.dv.ops<=s.dv.ops+3:=by unfold py;have a:=s6 s q i.toNat;split;grind;grind[Hg]
theorem TE(s:Pl)(q:cy)(i:Int)(b:cD):(kh s q i b).1.dv.ops<=s.dv.ops+5:=by unfold kh;have a:=s6 s q i.toNat;have c:=Hh (eB s q i.toNat).1 b;have d:=mE (rJ (eB s q i.toNat).1 b).1;simp only;split;grind;split;grind;grind[mE]
theorem Wd(s:Pl)(y:Way)(q:cy)(i:Nat):(mY s y q i).1.dv.ops<=s.dv.ops+2:=by
 unfold mY;simp only;generalize hk:(if qw (ig y.lJ (i%8) cH)=true then(if qw (ig y.first (i/8) cH)=true then 0 else 1) else 2)=k;split;grind;have b:∀a(k:Nat),(if k=2 then eH s a else(s,(cH,0))).1.dv.ops<=s.dv.ops+1:=by intro a k;have:=mE s a;grind
 grind[mE]
theorem QM(s:Pl)(q:cy)(i:Int):(gC s q i).1.dv.ops<=s.dv.ops+4:=by unfold gC;have a:=s6 s q i.toNat;simp only;split;grind;grind[Wd]
theorem TF(cA:Nat)(x:Pl×(List cy×Int))(q:cy):(iL cA x q).1.dv.ops<=x.1.dv.ops+1:=by unfold iL;have h:=wF x.1 q;grind
theorem TG(s:Pl)(q:cy)(st:Nat):(fA s q st).1.dv.ops<=s.dv.ops+9:=by unfold fA;have h:=wF s q;split;grind;grind[zO,TF,oI,sd]
theorem QN(x:Pl×(cD×Int))(q:cy):(jw x q).1.dv.ops<=x.1.dv.ops+1:=by unfold jw;have h:=Hg x.1 q;grind
theorem NG(a:Nat)(x:Pl×(List cy×Int))(q:cy):(fH a x q).1.dv.ops<=x.1.dv.ops+1:=by unfold fH;have h:=wF x.1 q;grind
def NH(s:Pl)(l:List cy)(a:Nat):(fj s l a).1.dv.ops<=s.dv.ops+l.length:=zO (NG a) l _
theorem QO(s:Pl)(l:List cy)(n:Nat):(eo s l n).1.dv.ops<=s.dv.ops+l.length:=by grind[oM,zO,QN,eo]
theorem QP(a:Nat)(x:Pl×(List cy×Int))(q:cy)(b:x.2.1.length<=a):(fH a x q).2.1.length<=a:=by unfold fH;grind
theorem QQ(s:Pl)(l:List cy)(a:Nat):(fj s l a).2.1.length<=a:=by
 unfold fj;suffices ∀(l:List cy)(x:Pl×(List cy×Int)),x.2.1.length<=a->(l.foldl (fH a) x).2.1.length<=a from this l _ (fN _)
 intro l;induction l<;>grind[QP]
theorem QR(x:Pl×(List cy×List cy×Int))(a:Nat)(d:x.2.1.length<=512)(c:a<=512):(iM x a).1.dv.ops<=x.1.dv.ops+512/\(iM x a).2.1.length<=512:=by unfold iM;have h:=NH x.1 x.2.1 a;have b:=QQ x.1 x.2.1 a;grind
def Gl:∀(ws:cD)(x:Pl×(List cy×List cy×Int)),x.2.1.length<=512->(∀w∈ws,w<=512)->(ws.foldl iM x).1.dv.ops<=x.1.dv.ops+512*ws.length/\(ws.foldl iM x).2.1.length<=512
 | [],x,hx,_=>⟨xe _ _,hx⟩
 |a::ws,x,hx,hw=>by
  have c:=QR x a hx (hw a lW);have d:=Gl ws (iM x a) c.2 λb e=>hw b (jI _ e);rw[ym,kr];exact⟨cw,d.2⟩
theorem wK(s:Pl)(cz:cy)(n:Int):(dP s cz n).1.dv.ops<=s.dv.ops+6200:=by
 unfold dP;have b:(qG n).length<=11:=by grind[x7,qG]
 have a:=Gl (qG n) (s,([cz],[cz],0)) dU λw c=>zM n w (by
  grind[qG,dropLast_subset])
 simp only at a;simp only;split;grind;grind[QO]
theorem ae7(a:Pl×(cD×(List cy×Int)))(q c:cy)(b:Nat):(mw5 a q c b).1.dv.ops<=a.1.dv.ops+6200:=by unfold mw5;have h:=wK a.1 c (b:Nat);grind
theorem ae8(a:Pl×(cy×Int))(c:cy)(b:Nat)(e:cy)(d:Nat):(mw4 a c b e d).1.dv.ops<=a.1.dv.ops+12400:=by unfold mw4;have h:=wK a.1 c (b:Nat);split;grind;grind[ae7]
theorem ae9(a:Pl×(cy×Int))(d:cy)(b c dO:Nat):(mw3 a d b c dO).1.dv.ops<=a.1.dv.ops+12401:=by unfold mw3;split;grind;split;grind;grind[sw,ae8]
theorem afa(a:Pl×(cy×Int))(b:Nat)(dO:cD):(mw2 a b dO).1.dv.ops<=a.1.dv.ops+14401:=by unfold mw2;split;grind;split;grind;grind[wJ,ae9]
theorem NI(s:Pl)(text dO:cD):(gl s text dO).1.dv.ops<=s.dv.ops+16401:=by grind[gl,wJ,afa]
theorem Gm(s:Pl)(b:dS)(iV:List cy):(gi s b iV).1.dv.ops<=s.dv.ops+16401:=by unfold gi;have a:=fK Dv.ops (oO iV s);split;grind;grind[NI]
theorem LS(d:Dv)(u:qi):(eS d u).1.ops<=d.ops+3:=by unfold eS;split;grind;grind[IW,yF]
theorem D1(s:Pl)(b:dS)(iV:List cy):(gi s b iV).2.2.1.length<=20000:=by unfold gi;split;grind;split;grind;unfold gl mw2;split;grind;split;grind;unfold mw3;split;grind;split;grind;unfold mw4;split;grind;unfold mw5;split;grind;split;grind;simp only[ik,kr,r7];have a:=q6;grind
def ail(u:qi):ct 7 (kb u)=#[.int .u64 u.lD,.int .u64 u.cA,.int .i64 u.gJ.1,.int .u64 u.gJ.2.1,.int .u32 u.gJ.2.2,.int .i64 u.len,.int .i64 u.fB]:=rfl
section
attribute[local irreducible]wpList Code.wp Calls Oper.wp wpAnyH
def D3(G D M:Nat)(g:gX)(s:Pl)(ht:eQ g.b.t)(C:eU g.dx)(hl:g.dx.length<=100000)(ho:s.dv.ops<=990000000)(w:cB)(h:dF w G g D M s):
 CP_ 122 #[.pointer (some ⟨G,0,none⟩)] w λe w'=>yb w w' G D M g (mA (g.gt s)) e:=by
 obtain⟨B,hB⟩:=eW (ct 2 (dk g.b));have HB:=cq hB;have hn:=pC.NF h.x;have S:=St.start w (some D) [G,M,g.P] (gw G g D M s) h.x;have V:=cq λW(X:dF W G g D M s)=>QG g.P D M s ho g.b B hB ht g.dx C hl g.hv W X.kq X.wA X.dx;have z:=Gm s g.b.t g.dx;have H:=D1 s g.b.t g.dx;have HG:=cq (show mA (g.gt s)=uH (g.gt s) (gi s g.b.t g.dx) from ae);obtain⟨m,hm⟩:=c8 (gi s g.b.t g.dx);rw[hm] at V HG z H;have y:m.1.dv.ops<=999000000:=cw;have I:=cq y;have a1:=cq H;obtain⟨a,q,d,c⟩:=m;simp only at V I a1;clear h hB ht C hl ho z hm H y;unfold gX.hv at V;go_enter func122,ntmps122;go_upto_region 1 with(fail);refine LP S cX [] (by intro r hr;cases hr) (S.x.1.1.2) λW S=>?_;refine cJ 0 _ ?_;refine cJ 1 (cZ G 0) ?_;refine cJ 2 (cZ G 0) ?_;refine fW 3 (cZ g.P 0) ae (fR (λw h=>h.cell 0 cw) ae Lp) ?_;refine cJ 4 _ ?_;refine cJ 5 (cZ G 0) ?_;refine cJ 6 (cZ G 1) ?_;refine fW 7 (.agg B) ae (yKn (λw h=>h.I8) (o:=1) (m:=2) ae (dk g.b) cw (λi hi=>by rcases i with(_|_|i)<;>first|rfl|omega) HB.o mP) ?_;refine cJ 8 _ ?_;refine cJ 9 (cZ G 0) ?_;refine cJ 10 (cZ G 3) ?_;refine fW 11 (.slice g.ho g.dx.length g.hc) ae (fR (λw h=>h.cell 3 cw) ae nk) ?_;repeat' first|refine Rp ?_|refine mi 13 _ ?_|refine mi 14 (.agg A) ?_|refine mi 15 (.slice L d.length hc) ?_|refine mi 16 (.int .i64 c) ?_|refine mi 19 _ ?_|refine mi 20 _ ?_|refine zX 12 17 (λK b=>?_) λK b=>?_|refine oJ 12 λK b=>?_|refine oJ 18 λK b=>?_|refine oJ 17 λK b=>?_|(refine fu S vV gQ ae λE6 W S=>?_;refine fC b ?_)|(go_wp2_with fail;refine(V.o _ S.x.at).mono ?_;rintro e W ⟨A,r,rfl,hA,Q,ho,O,C,l⟩;have HA:=cq hA;have a3:=cq Q;have a2:=cq O;have HF:=cq (cS ho);have J:=λB(f:pC G g D M s B _)=>f.pl l (by rw[eV];exact hn.2.1) C;replace S:=S.sf l ar (by intro k hk;rw[eV.1 hk];exact .inl dU) (gw G g D M a) J ho ae ae;clear hA Q ho O C J;obtain⟨L,hc,rfl⟩:=HF.o;refine fC b ?_)|(refine ju S 0 ae ae ae HA.o eN (df _) λW S=>?_;refine fC b ?_)
 all_goals(
  refine cq ?_;by_cases g2:c=0
  case neg=>
   have g3:(c !=0)=true:=eO.2 g2;have HR:=cq (show mA (g.gt s)=({g.gt s with s:=a},c) from by rw[HG.o];unfold uH;rw[cL g2]);clear g2;go_wp2;go_ret;rw[HR.o];exact⟨g,a,ae,ae,S.x.at,ae,id,S.fr⟩
  subst g2;obtain⟨x,f⟩:=c8 (g.gt s);obtain⟨n1,p⟩:=c8 (iA g.ub.lD);have w1:IntKind.u64.wrap ((g.ub.lD:Int)+1)=((n1:Nat):Int):=by rw[<-p];exact uU _
  obtain⟨a5,j⟩:=c8 a.cA;obtain⟨nn,t⟩:=c8 a.dv.n;obtain⟨u,hu⟩:∃u:qi,u=⟨n1,a5,q,40,nn⟩:=⟨_,ae⟩;have R:rQ x (a,q,d,0)=u:=by rw[hu,<-p,<-j,<-t,<-f];rfl
  have T:nH u:=by
   rw[hu];have h1:=S.x.1.1.1.ok.1;have h2:=ej.pK S.x.1.1.1;rw[j] at h1;rw[t] at h2;exact⟨by rw[<-p];exact BP _,h1,a3.o,(show(40:Nat)<4294967296 by decide),by show nn<4294967296;omega⟩
  obtain⟨U,Z⟩:=eW (ct 7 (kb u));have C2:=cq λW(X:dF W G g D M a)=>mK g.P D M a.cA a.base W X.kq.row;have C3:=cq λW(X:dF W G g D M a)=>uT g.P D M a.cA a.base W X.kq.row;have C4:=cq λW(X:dF W G g D M a)=>yT D a.dv W X.kq.dev;have Y:=cq λW(X:dF W G g D M a)=>K5 D a.dv (gO I.o jR) u T W X.kq.dev;rw[<-Z] at Y;have F:=Z;rw[hu,ail] at F;have a4:=cq F;have HU:=cq Z;rw[j] at C3;rw[t] at C4;have E:=cq (show mA x=if(eS a.dv u).2≠0 then({x with s:={a with dv:=(eS a.dv u).1}},(eS a.dv u).2) else({x with dx:=d,ub:=u,s:=nM {a with dv:=(eS a.dv u).1}},0) from by
   rw[<-f,HG.o];unfold uH;rw[f,R];rfl)
  obtain⟨n,N⟩:=c8 (eS a.dv u);rw[N] at E Y;obtain⟨n,c2⟩:=n;simp only at E Y;rw[<-f] at E;clear Z F hu R T j t p N f
  go_upto_region 5 with(first|((with_reducible refine aQ_ ?_);refine yi S.x.at.c0 ?_)|(go_at_call 106;refine lB (C2.o _ S.x.at) ?_;))
  refine LP S cX [⟨E6,106,3,c7 q⟩] Be (S.x.1.1.2) λW S=>?_;refine cJ 0 _ ?_;refine cJ 1 (cZ G 0) ?_;refine cJ 2 (cZ G 4) ?_;refine cJ 3 (cZ G 4) ?_;refine fW 4 (.int .u64 g.ub.lD) ae (fR (λw h=>h.cell 4 cw) ae fg) ?_;refine cJ 5 (.int .u64 n1) ?_;refine cJ 6 _ ?_;refine cJ 7 (cZ G 0) ?_;refine cJ 8 (cZ G 0) ?_;refine fW 9 (cZ g.P 0) ae (fR (λw h=>h.cell 0 cw) ae Lp) ?_;refine fW 11 (.agg #[.int .i64 q.1,.int .u64 q.2.1,.int .u32 q.2.2]) ae (pZ aF ae (yu q).symm eN) ?_;refine cJ 12 _ ?_
  repeat' first|refine Rp ?_|refine nv_ 14 (.agg U) ae (xO ae (by rw[a4.o];kernel_rfl)) ?_|refine zX 10 15 (λK b=>?_) λK b=>?_|refine oJ 10 λK b=>?_|refine oJ 13 λK b=>?_|refine oJ 16 λK b=>?_|refine zX 13 15 (λK b=>?_) λK b=>?_|refine oJ 15 λK b=>?_|(refine fu S zeroValue143 Xw ae λE7 W S=>?_;refine fC b ?_)|(go_wp2_with fail;refine lB (C3.o _ S.x.at) ?_;refine fC b ?_)|(go_wp2_with fail;refine lB (C4.o _ S.x.at) ?_;refine fC b ?_)|(refine ju S 0 ae ae ae HU.o DN (se _) λW S=>?_;refine fC b ?_)
  all_goals(
   refine cq ?_
   go_upto_region 7 with(first|(go_at_call 170;refine ah (Y.o _ S.x.at) λW⟨hd,l⟩=>?_;have J:=λB(f:pC G g D M a B _)=>f.pl (s':={a with dv:=n}) l dU ⟨cu.fr f.1.1.1.row l au (.inr dU),hd,f.1.1.1.map.fr l dU,f.1.1.1.ok⟩;replace S:=S.call l ar dU (gw G g D M {a with dv:=n}) J;clear hd J)|refine eR ?_)
   by_cases g2:c2=0
   case neg=>
    have g3:(c2 !=0)=true:=eO.2 g2;rw[cL g2] at E;clear g2;go_wp2;go_ret;rw[E.o];exact⟨g,{a with dv:=n},ae,ae,S.x.at,ae,id,S.fr⟩
   subst g2;rw[cM aE] at E;replace S:=S.Dx (X':=LQ G g D M {a with dv:=n}) (λB w h=>h.1) (LR G g D M _)
   go_upto_region 9 with(fail)
   refine dN S cX [⟨E7,143,7,kb u⟩] Be λW S=>?_;refine cJ 0 _ ?_;refine cJ 1 _ ?_;refine cJ 2 _ ?_;refine fW 3 (.agg U) ae (pZ aF ae HU.o DN) ?_;refine cJ 4 (cZ G 0) ?_;refine cJ 5 (cZ G 3) ?_;refine jQ 6 λK b=>?_;refine agY S aV d L hc ae ae nk λW S=>?_;refine fC b ?_;refine cJ 7 (cZ G 0) ?_;refine cJ 8 (cZ G 4) ?_;refine jQ 9 λK b=>?_;refine ai9 S aV u ae ae HU.o DN λW S=>?_;refine fC b ?_;refine pz ?_
   all_goals(
    replace S:St w (some D) [G,M,g.P] _ _ (LQ G ⟨g.P,g.b,d,L,hc,u⟩ D M {a with dv:=n}) W:=S
    go_wp2_with first|((with_reducible refine aQ_ ?_);refine yi (v:=cZ g.P 0) (cu.cell S.x.1.2 (i:=0) cw) ?_)|(go_at_call 171;refine ah (KP g.P D M _ _ S.x.1.1) λW⟨C,l⟩=>?_;have hG:G∉ [g.P,M]:=(by rintro(_|⟨_,_|⟨_,h⟩⟩);exact hn.1 ae;exact hn.2.1 ae;cases h);replace S:=S.call l (λD e=>by cases e) (λk hk=>.inl (by simp only[ib,iS,sM] at hk|-;rcases hk with h|h;exact .inr (.inr h);exact .inr (.inl h))) (LR G ⟨g.P,g.b,d,L,hc,u⟩ D M (nM {a with dv:=n})) (λB f=>⟨⟨C,cu.fr f.1.2 l ax (.inr hG)⟩,(eT _ _).fr f.2 l⟩);clear C hG)
    go_ret;rw[E.o];exact⟨⟨g.P,g.b,d,L,hc,u⟩,nM {a with dv:=n},ae,ae,⟨S.x.1.2,S.x.1.1,S.x.2.sl,S.q0⟩,ae,λ_=>a2.o,S.fr⟩)))
def iR(x:GT):GT×Int:=
 if x.s.dv.cO=true then(x,42) else
 if 281474976710652<x.ub.lD∨281474976710652<x.s.cA∨281474976710652<x.b.next then(x,192) else
 if eF x.s.mp<lP x.b x.s.dv.n then(x,71) else mA x
def TH(G D M:Nat)(g:gX)(s:Pl)(z:eQ g.b.t)(C:eU g.dx)(B:g.dx.length<=100000)(ho:s.dv.ops<=990000000)(w:cB)(h:dF w G g D M s):
 CP_ 59 #[.pointer (some ⟨G,0,none⟩)] w λe w'=>yb w w' G D M g (iR (g.gt s)) e:=by
 have S:=St.start w (some D) [G,M,g.P] (gw G g D M s) h.x;have l:=cq λW(X:dF W G g D M s)=>mK g.P D M s.cA s.base W X.kq.row;have c:=cq λW(X:dF W G g D M s)=>J0 D s.dv W X.kq.dev;have o:=cq λW(X:dF W G g D M s)=>uT g.P D M s.cA s.base W X.kq.row;have A:=cq λW(X:dF W G g D M s)=>nN g.P D M s.cA s.base W X.kq.row;have r:=cq λW(X:dF W G g D M s)=>count_map M s.mp W X.kq.map;have t:=cq λW(X:dF W G g D M s)=>I7 G D M g s z W X;have E:=cq λW(X:dF W G g D M s)=>D3 G D M g s z C B ho W X;have a:=cq (show iR (g.gt s)=if s.dv.cO=true then(g.gt s,42) else if 281474976710652<g.ub.lD∨281474976710652<s.cA∨281474976710652<g.b.next then(g.gt s,192) else if eF s.mp<lP g.b.t s.dv.n then(g.gt s,71) else mA (g.gt s) from ae);obtain⟨T,x⟩:=c8 (iR (g.gt s));obtain⟨st,p⟩:=q8 s.cA;obtain⟨u,f⟩:=c8 (eF s.mp);obtain⟨v,i⟩:=c8 (lP g.b.t s.dv.n);obtain⟨J,j⟩:=c8 s.dv.cO;rw[x,p.o,f,i,j] at a;rw[x];rw[j] at c;rw[p.o] at o;rw[f] at r;rw[i] at t;clear h x f i j z C B ho;go_enter func59,ntmps59;cases J with
 |true=>rw[cL ae] at a;go_wp2_with (first|refine yi S.x.at.c0 ?_|refine lB (l.o _ S.x.at) ?_|refine lB (c.o _ S.x.at) ?_);go_ret;rw[a.o];exact aO
 |false=>
  rw[cM jR] at a;by_cases b:281474976710652<g.ub.lD;case pos=>have F:decide (281474976710652<g.ub.lD)=true:=fQ b;have K:decide ((281474976710652:Int)<(g.ub.lD:Int))=true:=fQ cw;rw[cL (.inl b)] at a;clear b;go_wp2_with (first|(first|refine yi S.x.at.c0 ?_|refine yi S.x.at.c4 ?_)|refine lB (l.o _ S.x.at) ?_|refine lB (c.o _ S.x.at) ?_);go_ret;rw[a.o];exact aO
  have F:decide (281474976710652<g.ub.lD)=false:=iC b;have K:decide ((281474976710652:Int)<(g.ub.lD:Int))=false:=iC cw;by_cases d:281474976710652<st;case pos=>have d2:decide (281474976710652<st)=true:=fQ d;have L:decide ((281474976710652:Int)<(st:Int))=true:=fQ cw;rw[cL (.inr (.inl d))] at a;clear b d;go_wp2_with (first|(first|refine yi S.x.at.c0 ?_|refine yi S.x.at.c4 ?_)|refine lB (l.o _ S.x.at) ?_|refine lB (c.o _ S.x.at) ?_|refine lB (o.o _ S.x.at) ?_);go_ret;rw[a.o];exact aO
  have d2:decide (281474976710652<st)=false:=iC d;have L:decide ((281474976710652:Int)<(st:Int))=false:=iC cw;by_cases m:281474976710652<g.b.next;case pos=>have H:decide (281474976710652<g.b.next)=true:=fQ m;have N:decide ((281474976710652:Int)<(g.b.next:Int))=true:=fQ cw;rw[cL (.inr (.inr m))] at a;clear b d m;go_wp2_with (first|(first|refine yi S.x.at.c0 ?_|refine yi S.x.at.c4 ?_|refine yi S.x.at.c1 ?_)|refine lB (l.o _ S.x.at) ?_|refine lB (c.o _ S.x.at) ?_|refine lB (o.o _ S.x.at) ?_);go_ret;rw[a.o];exact aO
  have H:decide (281474976710652<g.b.next)=false:=iC m;have N:decide ((281474976710652:Int)<(g.b.next:Int))=false:=iC cw;rw[cM (λh=>h.elim b λh=>h.elim d m)] at a;clear b d m;by_cases n:u<v;case pos=>have I:decide (u<v)=true:=fQ n;rw[cL n] at a;clear n;go_wp2_with (first|(first|refine yi S.x.at.c0 ?_|refine yi S.x.at.c4 ?_|refine yi S.x.at.c1 ?_)|refine lB (l.o _ S.x.at) ?_|refine lB (c.o _ S.x.at) ?_|refine lB (o.o _ S.x.at) ?_|refine lB (A.o _ S.x.at) ?_|refine lB (r.o _ S.x.at) ?_|refine je S (t.o _ S.x.at) λW S=>?_);go_ret;rw[a.o];exact aO
  have I:decide (u<v)=false:=iC n;rw[cM n] at a;clear n;go_wp2_with (first|(first|refine yi S.x.at.c0 ?_|refine yi S.x.at.c4 ?_|refine yi S.x.at.c1 ?_)|refine lB (l.o _ S.x.at) ?_|refine lB (c.o _ S.x.at) ?_|refine lB (o.o _ S.x.at) ?_|refine lB (A.o _ S.x.at) ?_|refine lB (r.o _ S.x.at) ?_|refine je S (t.o _ S.x.at) λW S=>?_|(refine(E.o _ S.x.at).mono ?_;rintro e W ⟨g2,s2,rfl,Q,U,q,y,R⟩;have O:=S.fr.step R ar (λk V=>.inl V);rw[<-a.o] at q;rw[<-a.o]));go_ret;exact⟨g2,s2,ae,Q,U,q,y,O⟩
end
section
variable {x:Nat}
theorem St.acP(S:St w0 d l L O X w)(t:dC)(a:A=ct n f)(ho:fT t=true):St w0 d l L O (λB w'=>X B w'/\cu w' w.heap.size t n f) (w.alloc (.cells A t)):=by refine(S.cx ((fO _ _).alloc (dK _) _)).uZ ?_ ho;grind[cu.alloc]
def TJ(S:St w0 d l L O X w)(c:a.eval (.tmp x)=.agg A)(b:A=ct n f)(ho:fT ty=true)(h:∀k W,w0.heap.size<=k->St w0 d l L O (λB w=>X B w/\cu w k ty n f) W->K (a.put (some dst) (.pointer (some ⟨k,0,none⟩))) W):Oper.wp P ⟨some dst,.box ty (.tmp x),t2,p,af,none⟩ a w K Q:=by unfold Oper.wp execOp;simp only[kj,Instr.box,newVar,newRow,EM,qq,mS];rw[c];exact h _ _ S.fr.size (S.acP ty b ho)
def LU(S:St w0 d l L O X w)(e:a.eval (.tmp x)=.agg A)(b:A=ct n f)(ho:fT ty=true)(h:∀k W,w0.heap.size<=k->St w0 d l L O (λB w=>X B w/\cu w k ty n f) W->wpList P ops Q rest (a.put (some dst) (.pointer (some ⟨k,0,none⟩))) W):wpList P ops Q (⟨some dst,.box ty (.tmp x),t2,p,af,none⟩::rest) a w:=by refine lF ae λK c=>?_;unfold Oper.wp execOp;simp only[kj,Instr.box,newVar,newRow,EM,qq,mS];rw[e];exact c _ _ (h _ _ S.fr.size (S.acP ty b ho))
end
section
attribute[local irreducible]wpList Code.wp Calls Oper.wp wpAnyH
theorem Je(G D M:Nat)(g:gX)(s:Pl)(H:xZ g.b.t)(I:g.dx.length<=1000000)(w:cB)(h:dF w G g D M s):
 CP_ 58 #[.pointer (some ⟨G,0,none⟩)] w λe w'=>∃G2 g2 M2,e=.returned (.pointer (some ⟨G2,0,none⟩))/\w.heap.size<=G2/\w.heap.size<=g2.P/\w.heap.size<=M2/\dF w' G2 g2 D M2 s/\g2.gt s=g.gt s/\dz w w':=by obtain⟨A,u⟩:=eW (ct 2 (dk g.b));have V:=cq u;obtain⟨U,z⟩:=xm (ct 7 (kb g.ub));have f:=cq h;have J:=cq λW(a:dz w W)=>mK g.P D M s.cA s.base W ((h.cx a).kq.row);have L:=cq λW(a:dz w W)=>nN g.P D M s.cA s.base W ((h.cx a).kq.row);have N:=cq λW(a:dz w W)=>(abB M s.mp W ((h.cx a).kq.map)).mono λe w'(d:_/\_/\_)=>(show∃k,e=.returned (cZ k 0)/\w.heap.size<=k/\eE w' k s.mp/\dz W w' from⟨_,d.1,a.size,d.2.1,d.2.2⟩);have O:=cq λW(a:dz w W)=>uT g.P D M s.cA s.base W ((h.cx a).kq.row);have Q:=cq λW(a:dz w W)=>PR g.P D M s.cA s.base W ((h.cx a).kq.row);have R:=cq λM2 W(a:dz w W)=>(yC D M2 s.cA s.base W).mono λe w'(d:_/\_/\_)=>(show∃k,e=.returned (cZ k 0)/\w.heap.size<=k/\k7 w' k D M2 s.cA s.base/\dz W w' from⟨_,d.1,a.size,d.2.1,d.2.2⟩);have T:=cq λW(a:dz w W)=>yZ g.b A u H W ((h.cx a).wA);have y:=cq λW(a:dz w W)=>No g.dx g.hv I W ((h.cx a).dx);unfold gX.hv at y;have S:=pF w;clear h u H I;go_enter func58,ntmps58;go_upto_region 2 with(with_reducible refine jo 7 68 6 (f.o.cx S.b).c0 ?_);refine AA S cX λW S=>?_;refine cJ 0 _ ?_;refine cJ 2 _ ?_;refine cJ 5 _ ?_;refine cJ 7 _ ?_;refine cJ 10 _ ?_;refine cJ 11 (cZ G 0) ?_;refine cJ 12 (cZ G 1) ?_;refine fW 13 (.agg A) ae (yKn (λw h=>by obtain⟨_,_,_,S⟩:=h;exact(f.o.cx S.b).row) (o:=1) (m:=2) ae (dk g.b) cw (λi Z=>by rcases i with(_|_|i)<;>first|rfl|omega) V.o mP) ?_;refine cJ 15 _ ?_;refine cJ 16 (cZ G 0) ?_;refine cJ 17 (cZ G 3) ?_;refine fW 18 (.slice g.ho g.dx.length g.hc) ae (fR (λw h=>by obtain⟨_,_,_,S⟩:=h;exact(f.o.cx S.b).c3) ae nk) ?_;refine cJ 20 _ ?_;refine cJ 21 (cZ G 0) ?_;refine cJ 22 (cZ G 4) ?_;refine fW 23 (.agg U) ae (yKn (λw h=>by obtain⟨_,_,_,S⟩:=h;exact(f.o.cx S.b).row) (o:=4) (m:=7) ae (kb g.ub) cw (λi Z=>by unfold uF;grind) z.o DN) ?_;refine jQ 1 λK b=>?_;go_wp2_with fail;refine lB (J.o _ S.b) ?_;refine fC b ?_;refine jQ 3 λK b=>?_;go_wp2_with fail;refine lB (L.o _ S.b) ?_;refine fC b ?_;refine jQ 4 λK b=>?_;go_wp2_with fail;refine ag (N.o _ S.b) λM2 W⟨j,n,a⟩=>?_;have q:=cq j;replace S:=(S.cx a).uZ n ae;clear n a j;refine fC b ?_;refine jQ 6 λK b=>?_;go_wp2_with fail;refine lB (O.o _ S.b) ?_;refine fC b ?_;refine jQ 8 λK b=>?_;go_wp2_with fail;refine lB (Q.o _ S.b) ?_;refine fC b ?_;refine jQ 9 λK b=>?_;go_wp2_with fail;refine ag (R.o M2 _ S.b) λC W⟨l,n,a⟩=>?_;have t:=cq l;replace S:=(S.cx a).uZ n ae;clear n a l;refine fC b ?_;refine jQ 14 λK b=>?_;go_wp2_with fail;refine ag (T.o _ S.b) λB W⟨⟨c,E,hc,ho⟩,a⟩=>?_;have X:=cq E;have Y:=cq hc;have HF:=cq (S.fresh ho);replace S:=S.jv a ho;clear a E hc;refine fC b ?_;refine jQ 19 λK b=>?_;go_wp2_with fail;refine ag (y.o _ S.b) λr W⟨ho,a⟩=>?_;have p:=cq (cS ho);replace S:=S.gm a ho ae ae;clear a;obtain⟨F,hc,rfl⟩:=p.o;refine fC b ?_;refine fW 24 (.agg (ct 11 (uF ⟨C,c,g.dx,F,hc,g.ub⟩))) ae (xO ae (by rw[X.o,z.o];kernel_rfl)) ?_;refine jQ 25 λK b=>?_;refine TJ S ae ae ae λG2 W v S=>?_;refine fC b ?_;refine cJ 26 _ ?_;refine pz ?_;go_wp2;go_ret;exact⟨G2,⟨C,c,g.dx,F,hc,g.ub⟩,M2,ae,v,t.o,q.o,⟨S.x.2,⟨S.x.1.1.2,(f.o.cx S.b).kq.dev,S.x.1.1.1.2,f.o.kq.ok⟩,⟨S.q1,λx hx=>(S.x.1.2 x hx).1⟩,S.q0⟩,by unfold gX.gt;rw[<-Y.o],S.b⟩
def mG(f:Nat->cD):Prop:=∀i,iY (f i)
theorem Z3(d:Dv):(eG d).nw=d.nw:=by grind[eG]
theorem ON(d:Dv)(i:Int):(fZ d i).1.nw=d.nw:=Z3 d
theorem LV{d:Dv}(h:mG d.nw)(i:Int):iY (fZ d i).2.1:=by unfold fZ;simp only;split;split;exact vr;exact h _;exact vr
theorem TK(s:Pl)(q:cy):(fD s q).1.dv.nw=s.dv.nw:=by grind[fD,ON]
theorem OO(h:mG s.dv.nw)(q:cy):iY (fD s q).2.1:=by grind[fD,vr,LV]
theorem sy(s:Pl)(q:cy):(cQ s q).1.dv.nw=s.dv.nw:=by grind[cQ,TK]
theorem Gp{α β:Type}{f:Pl×β->α->Pl×β}(h:∀a x,(f a x).1.dv.nw=a.1.dv.nw):∀(l:List α)(a:Pl×β),(l.foldl f a).1.dv.nw=a.1.dv.nw
 | [],_=>rfl
 |x::l,a=>by rw[ym,Gp h l (f a x),h]
theorem QS(a:Nat)(x:Pl×(List cy×Int))(q:cy):(fH a x q).1.dv.nw=x.1.dv.nw:=by grind[fH,sy]
theorem Jf(x:Pl×(List cy×List cy×Int))(a:Nat):(iM x a).1.dv.nw=x.1.dv.nw:=by grind[iM,fj,Gp,QS]
theorem Jg(x:Pl×(cD×Int))(q:cy):(jw x q).1.dv.nw=x.1.dv.nw:=by grind[jw,TK]
theorem TL(s:Pl)(l:List cy)(n:Nat):(eo s l n).1.dv.nw=s.dv.nw:=by grind[oM,Gp,Jg,eo]
theorem Jh(s:Pl)(cz:cy)(n:Int):(dP s cz n).1.dv.nw=s.dv.nw:=by grind[dP,Gp,Jf,TL]
theorem Ji:∀(l:List cy)(x:Pl×(cD×Int)),mG x.1.dv.nw->(∀c∈x.2.1,c<256)->∀c∈(l.foldl jw x).2.1,c<256
 | [],_,_,h=>h
 |q::l,x,hn,h=>by
  rw[ym];refine Ji l (jw x q) (by grind[Jg]) ?_;unfold jw;split
  . exact h
  split
  . grind
  . intro c hc;rcases fL.1 hc with hc|hc
    . grind
    . exact(OO hn q).2 c hc
theorem TM(s:Pl)(a:mG s.dv.nw)(l:List cy)(n:Nat):∀c∈(eo s l n).2.1,c<256:=by have h:=Ji l (s,([],0)) a (λc hc=>absurd hc iS);unfold eo;grind[oM]
theorem TN(s:Pl)(b:mG s.dv.nw)(cz:cy)(n:Int):∀c∈(dP s cz n).2.1,c<256:=by unfold dP;have a:((qG n).foldl iM (s,([cz],[cz],0))).1.dv.nw=s.dv.nw:=Gp Jf _ _;grind[TM]
theorem LW(s:Pl)(a:cD):(iX s a).1.dv.nw=s.dv.nw:=by grind[iX,Jh]
theorem Wf(s:Pl)(b:mG s.dv.nw)(a:cD):∀c∈(iX s a).2.1,c<256:=by unfold iX;split;grind;exact TN _ b _ _
theorem Jj(s:Pl)(a:cD):(iX s a).1.dv.ops<=s.dv.ops+6200:=by unfold iX;split;grind;grind[wK]
theorem acQ(n:Nat)(a:List cy)(h g:Pl×(cD×List cy×Int))(d:∀c∈h.2.1,c<256):eQ (ml3 n a h g).1:=by have b:eQ rP:=⟨by decide,⟨by simp[rP],λt h=>absurd h iS⟩,λs h=>absurd h iS⟩;grind[ml3,acL]
theorem acR(n:Nat)(a:List cy)(h g:Pl×(cD×List cy×Int)):(ml3 n a h g).2.2.1.length<=a.length+h.2.2.1.length+g.2.2.1.length:=by unfold ml3;grind
def AW:eQ rP:=⟨by decide,⟨by simp[rP],λt h=>absurd h iS⟩,λs h=>absurd h iS⟩
theorem yd(s:Pl)(m:mG s.dv.nw)(t:cy):eQ (ji s t).2.1/\(ji s t).2.2.2.1.length<=20000/\(ji s t).1.dv.ops<=s.dv.ops+20000/\(ji s t).1.dv.nw=s.dv.nw:=by unfold ji;have j:=wK s t 40;have b:=Jh s t 40;have f:=q6 s t 40;split;exact⟨AW,fN _,by grind,b⟩;generalize dP s t 40=a at j b f|-;unfold ml1;have k:=Jj a.1 (a.2.1.take 20);have c:=LW a.1 (a.2.1.take 20);have l2:=yK a.1 (a.2.1.take 20);have e:=Wf a.1 iG (a.2.1.take 20);simp only;generalize iX a.1 (a.2.1.take 20)=h at k c l2 e|-;split;exact⟨AW,fN _,by grind,c.trans b⟩;unfold ml2;have l:=Jj h.1 (a.2.1.drop 20);have d:=LW h.1 (a.2.1.drop 20);have i:=yK h.1 (a.2.1.drop 20);simp only;generalize iX h.1 (a.2.1.drop 20)=g at l d i|-;split;exact⟨AW,fN _,by grind,(d.trans c).trans b⟩;grind[acR,acQ]
theorem LX{s:cD}(h:iY s){u:qi}(e:jf s=some u):nH u:=by unfold jf at e;split at e;cases e;next q hq=>split at e;cases e;exact FF h.2 (vu (λx a=>h.2 x (mR (lu a))) hq);cases e
theorem LY(x:Dv×List qi)(i:Nat)(h:mG x.1.nw)(a:∀u∈x.2,nH u):(qy x i).1.nw=x.1.nw/\(qy x i).1.ops<=x.1.ops+1/\∀u∈(qy x i).2,nH u:=by grind[ON,Wc,LV,qy,LX]
def Gq(d:Dv)(h:mG d.nw):∀k,(jq d k).1.nw=d.nw/\(jq d k).1.ops<=d.ops+k/\∀u∈(jq d k).2,nH u
 |0=>⟨ae,dK _,λu e=>absurd e iS⟩
 |k+1=>by
  obtain⟨a,f,c⟩:=Gq d h k;rw[BY];obtain⟨b,g2,g3⟩:=LY (jq d k) k (by rw[a];exact h) c;exact⟨b.trans a,cw,g3⟩
def TP:nH lz:=⟨by decide,by decide,⟨by decide,by decide,by decide⟩,by decide,by decide⟩
theorem tB(d:Dv)(h:mG d.nw):(eZ d).1.nw=d.nw/\(eZ d).1.ops<=d.ops+4/\nH ((eZ d).2.getD lz):=by obtain⟨a,b,c⟩:=Gq d h 4;refine⟨a,b,?_⟩;cases e:(eZ d).2 with|none=>exact TP|some u=>have f:u∈nR (jq d 4).2:=mem_of_getLast? e;grind[qV]
def tC(s:cR):Prop:=s.cO.length<=1000000/\s.name.size<=1000/\tt s
def eQ.of(d:b.next<18446744073709551616)(e:b.cE.length<=1000000)(a:∀s∈b.cE,tC s):eQ b:=
 ⟨d,⟨e,λt c=>⟨(a t c).1,(a t c).2.1⟩⟩,λs f=>(a s f).2.2⟩
def eQ.ok(h:eQ b):∀s∈b.cE,tC s:=λs a=>⟨(h.fit.2 s a).1,(h.fit.2 s a).2,h.parts s a⟩
theorem nV:tC nC:=⟨fN _,fN _,dA,λq h=>absurd h iS⟩
theorem u0{l:List cR}(h:∀s∈l,tC s)(k:Nat):tC (di l k):=by grind[di,nV]
theorem TQ{l:List cR}(h:∀s∈l,tC s)(k:Option Nat):tC (Ov l k):=by cases k<;>grind[nV,u0,Ov]
theorem Gr{l:List cR}(h:∀s∈l,tC s){x:cR}(a:tC x)(i:Nat):∀s∈l.set i x,tC s:=by grind
theorem OP{l:List cR}(h:∀s∈l,tC s)(i:Nat):∀s∈l.eraseIdx i,tC s:=by grind[mem_of_mem_eraseIdx]
theorem LZ{cC jA:fh}(h:rn cC=some jA):jA.size<=24:=by grind[rn,jL,vW]
theorem L0{cC jA cW:fh}(h:dG cC=some (jA,cW)):cW.size<=24:=by unfold dG at h;split at h;cases h;next hn=>simp only[xk,Prod.mk.injEq] at h;rw[<-h.2];cases b:dV (xV cC).2.1 with|true=>exact jL b|false=>(have a:(xV cC).2.2=false:=by grind);unfold xV at a|-;split at a;cases a;next hc=>rw[cM hc];exact fN _
theorem TR{cC jA cW:fh}(h:nq cC=some (jA,cW)):jA.size<=24/\cW.size<=24:=by grind[nq,jL,vW,L0]
def TS(n:Nat):iA n<18446744073709551616:=BP n
theorem Jk(h:eQ b)(c:b.cE.length<32){s:cR}(d:tC s):eQ (yY b s):=
 eQ.of (TS _) (by grind[yY]) λt a=>by
  rcases fL.1 a with a|a
  . exact h.ok t a
  grind
theorem Bm(h:eQ b)(cC:fh)(n:Int):eQ (jh b cC n).1:=by unfold jh;split;exact h;next jA hv=>split;exact h;split;exact h;next h32=>split;exact h;refine Jk h cw ⟨fN _,?_,dA,λq h=>absurd h iS⟩;grind[LZ]
theorem Cq(h:eQ b)(f t:fh):eQ (jH b f t).1:=by unfold jH;split;exact h;split;exact h;next jA hv=>split;exact h;next i _=>split;exact h;next h32=>split;exact h;have a:=u0 h.ok i;refine Jk h cw ⟨fN _,?_,a.2.2.1,λq h=>absurd h iS⟩;grind[LZ]
theorem D4(h:eQ b)(f:fh)(st:Nat):eQ (iD b f st).1:=by unfold iD;split;exact h;next jA cW hv=>split;exact h;next i _=>split;exact h;next h32=>split;exact h;split;exact h;have c:=u0 h.ok i;have d:=(TR hv).2;refine eQ.of (TS _) iG (Gr (x:={di b.cE i with cT:=b.next,cO:=[]}) (λt a=>?_) ⟨fN _,c.2.1,c.2.2.1,λq h=>absurd h iS⟩ i);rcases fL.1 a with a|a;exact h.ok t a;rw[eV.1 a];exact⟨c.1,by grind,c.2.2⟩
theorem OQ(l:List cR)(id:Nat):∀(b:cD)(s r:List cR),(∀t∈s,tC t)->x6 l id b s=some r->(∀t∈r,tC t)/\r.length=s.length
 | [],s,r,h,e=>by cases e<;>grind
 |m::b,s,r,h,e=>by
  rw[I5] at e;split at e
  . cases e
  . next j _=>
    split at e
    . cases e
    . have a:=u0 h j;have:=OQ l id b _ r (Gr h (x:={di s j with cG:=id}) ⟨a.1,a.2.1,a.2.2⟩ j) e;rw[wu] at this;exact this
def zQ(h:eQ b)(f:fh):eQ (fI b f).1:=by unfold fI;split;exact h;split;exact h;split;exact h;next s hs=>obtain⟨a,c⟩:=OQ _ _ _ _ _ h.ok hs;exact eQ.of h.next (by rw[c];exact h.fit.1) a
theorem D5(h:eQ b)(f:fh):eQ (kV b f).1/\tC (kV b f).2.1:=by unfold kV;split;grind[nV];next i _ _=>split;grind[nV];next j _=>have a:=u0 h.ok i;have c:=u0 h.ok j;exact⟨eQ.of h.next akj (Gr (x:={di b.cE i with cz:=(di b.cE j).cz,cO:=[]}) h.ok ⟨fN _,a.2.1,c.2.2.1,λq h=>absurd h iS⟩ i),a⟩
theorem zR(h:eQ b)(f:fh):eQ (eX b f).1/\tC (eX b f).2.1:=by unfold eX;split;grind[nV];next i _ _=>split;grind[nV];exact⟨eQ.of h.next (gO (GX _ _) h.fit.1) (OP h.ok i),u0 h.ok i⟩
theorem EZ:∀(a b r:List cy),gM a b=some r->∀q∈r,q∈a∨q∈b
 | [],b,r,e=>by grind[gM]
 |p::a,[],r,e=>by grind[gM]
 |p::a,q::b,r,e=>by
  rw[gM] at e;split at e
  . obtain⟨r',d,rfl⟩:=yP.1 e;intro x c;rcases ib.1 c with rfl|c
    . grind
    . exact(EZ a (q::b) r' d x c).imp (jI _) id
  split at e
  . obtain⟨r',d,rfl⟩:=yP.1 e;intro x c;rcases ib.1 c with rfl|c
    . grind
    . exact(EZ (p::a) b r' d x c).imp id (jI _)
  . cases e
termination_by a b=>a.length+b.length
theorem yL(h:eQ b)(f:fh):eQ (ez b f).1/\eU (ez b f).2.1/\(ez b f).2.1.length<=1000000:=by unfold ez;split;simp_all[dy];split;simp_all[dy];next i _=>split;simp_all[dy];split;simp_all[dy];next j _=>split;simp_all[dy];next all hm=>split;simp_all[dy];next h4=>have d:=u0 h.ok i;have a:=u0 h.ok j;refine⟨eQ.of h.next (gO (GX _ _) akj) (OP (Gr (x:={di b.cE j with cO:=all,cT:=(di b.cE i).cT}) h.ok ⟨?_,a.2.1,a.2.2.1,λq c=>?_⟩ j) i),λq c=>?_,?_⟩;grind;rcases EZ _ _ _ hm q c with h1|h1;unfold mr at h1;exact a.2.2.2 q (u9.1 h1).1;exact d.2.2.2 q h1;unfold jT at c;exact a.2.2.2 q (u9.1 c).1;unfold jT;exact gO (Ei _ _) a.1
theorem Hv(a:Nat):∀(l:List cy)(s r:List cy×List cy),eU l->eU s.1->s.1.length<=1000000->eU s.2->uD a l s=some r->(eU r.1/\r.1.length<=1000000)/\eU r.2/\r.2.length<=s.2.length+l.length
 | [],s,r,_,h1,h2,h3,e=>by cases e<;>grind
 |q::l,s,r,hl,h1,h2,h3,e=>by
  rw[Cc] at e;have f:=hl q lW;have c:eU l:=λx b=>hl x (jI _ b);split at e
  . have:=Hv a l (s.1,s.2++[q]) r c h1 h2 (λx b=>by
     rcases fL.1 b with b|b
     . exact h3 x b
     grind) e
    grind
  . split at e
    . cases e
    . next m hm=>
      split at e
      . cases e
      . next h4=>
        have d:eU m:=by
         unfold qd at hm;split at hm
         . cases hm
         split at hm
         . cases hm
         . cases hm;intro x b;rcases fL.1 b with b|b
           . exact h1 x (lu b)
           . rcases ib.1 b with rfl|b
             . exact f
             . exact h1 x (mR b)
        have:=Hv a l (m,s.2) r c d iG h3 e
        grind
theorem D6(h:eQ b)(id:Nat)(l:List cy)(f:eU l):eQ (kf b id l).1/\eU (kf b id l).2.1/\(kf b id l).2.1.length<=l.length:=by unfold kf;split;simp_all[dy];next i _=>split;simp_all[dy];next d g hk=>have a:=u0 h.ok i;obtain⟨c,e,j⟩:=Hv _ _ ((di b.cE i).cO,[]) _ f a.2.2.2 a.1 dy hk;refine⟨eQ.of h.next akj (Gr (x:={di b.cE i with cO:=d}) h.ok ⟨c.2,a.2.1,a.2.2.1,c.1⟩ i),e,?_⟩;grind
def Jl(h:mG s.dv.nw)(q:cy):∀i,i<8->cY ((cQ s q).2.1 i):=by have a:=OO h q;unfold cQ;split;intro i _;exact dA;split;intro i _;exact dA;next l e=>exact λi _=>yD a e i
theorem Jm{l:Nat->cy}(h:∀i,i<8->cY (l i)):eU (ly l):=by intro q a;unfold ly at a;grind
theorem D7(cA:Nat):∀(l:List cy)(x:Pl×(List cy×Int)),mG x.1.dv.nw->eU l->eU x.2.1->eU (l.foldl (iL cA) x).2.1/\(l.foldl (iL cA) x).2.1.length<=x.2.1.length+9*l.length/\(l.foldl (iL cA) x).1.dv.nw=x.1.dv.nw
 | [],x,_,_,h=>⟨h,dK _,ae⟩
 |q::l,x,hn,hl,h=>by
  rw[ym];have c:=hl q lW;have b:eU (iL cA x q).2.1/\(iL cA x q).2.1.length<=x.2.1.length+9/\(iL cA x q).1.dv.nw=x.1.dv.nw:=by
   unfold iL;split
   . grind
   split
   . grind
   split
   . simp_all[dy,sy]
   . refine⟨λy a=>?_,?_,sy _ _⟩
     . rcases fL.1 a with a|a
       . exact h y a
       . rcases ib.1 a with rfl|a
         . exact c
         . exact Jm (Jl hn q) y (u9.1 a).1
     grind[oI]
  have:=D7 cA l (iL cA x q) iG (λy a=>hl y (jI _ a)) b.1
  grind
theorem D8(h:mG s.dv.nw)(a:cY q)(st:Nat):eU (fA s q st).2.1/\(fA s q st).2.1.length<=73/\(fA s q st).1.dv.nw=s.dv.nw:=by unfold fA;split;exact⟨dy,fN _,ae⟩;split;simp_all[dy,sy];have:=D7 st (ly (cQ s q).2.1) ((cQ s q).1,([q],0)) (by grind[sy]) (Jm (Jl h q)) (λy b=>by grind);grind[oI,sy,sd]
theorem Bo{y:Way}{q:cy}(a:∀k,cY (y.first k))(b:cY y.block)(c:cY q)(i:Nat):eU (kH y q i)/\(kH y q i).length<=3:=by unfold kH;refine⟨λx d=>?_,Ei _ _⟩;grind
theorem D9(a:pH s.dv)(e:gU s.cA)(c:cY q)(i:Int)(b:cD):cY (kh s q i b).2.1/\eU (kh s q i b).2.2.1/\(kh s q i b).2.2.1.length<=3:=by have d:cY q/\eU ([]:List cy)/\([]:List cy).length<=3:=⟨c,dy,fN _⟩;obtain⟨w1,w2,f⟩:=qv a q i.toNat;unfold kh;simp only;split<;>grind[Bo,mW,mX,BS,s7]
theorem QT{s:Pl}(e:gU s.cA){y:Way}(c:∀k,cY (y.first k))(d:cY y.block){q:cy}(a:cY q)(i:Nat):cY (mY s y q i).2.1/\eU (mY s y q i).2.2.1/\(mY s y q i).2.2.1.length<=3:=by have b:cY q/\eU ([]:List cy)/\([]:List cy).length<=3:=⟨a,dy,fN _⟩;grind[Bo,mY,mX,mW,dA]
theorem Cr(c:pH s.dv)(d:gU s.cA)(a:cY q)(i:Int):cY (gC s q i).2.1/\eU (gC s q i).2.2.1/\(gC s q i).2.2.1.length<=3:=by have b:cY q/\eU ([]:List cy)/\([]:List cy).length<=3:=⟨a,dy,fN _⟩;grind[qv,gC,QT,s7]
def sC(x:GT)(b:dS):GT:={x with b:=b}
def zS(x:GT):Int:=if zN (lP x.b x.s.dv.n) (eF x.s.mp) x.dx.length=true then 0 else 71
def qI(x:GT)(r:dS×Int):GT×Int:=if r.2≠0 then(x,r.2) else(sC x r.1,zS (sC x r.1))
def mH(cC:fh)(n:Int)(x:GT):GT×Int:=if 281474976710651<x.b.next then(x,192) else qI x (jh x.b cC n)
def qJ(f t:fh)(x:GT):GT×Int:=if 281474976710651<x.b.next then(x,192) else qI x (jH x.b f t)
def vB(cC:fh)(x:GT):GT×Int:=
 if 281474976710651<x.b.next∨281474976710651<x.s.cA then(x,192) else
 if(iD x.b cC x.s.cA).2≠0 then(x,(iD x.b cC x.s.cA).2) else
 ({sC x (iD x.b cC x.s.cA).1 with s:=sZ x.s},zS {sC x (iD x.b cC x.s.cA).1 with s:=sZ x.s})
def lQ(cC:fh)(x:GT):GT×Int:=if(fI x.b cC).2≠0 then(x,(fI x.b cC).2) else(sC x (fI x.b cC).1,0)
def wL(b:dS)(x:GT)(r:Pl×(List cy×Int)):GT×Int:=
 if r.2.2≠0 then({x with s:=r.1},x8 r.2.2) else({x with b:=b,s:=dI r.1 r.2.1},0)
def pV(b:dS)(iV:cR)(x:GT):GT×Int:=wL b x (fA x.s iV.cz (eM x.b.cE iV.id))
def pD(x:GT)(r:dS×(cR×Int)):GT×Int:=if r.2.2≠0 then(x,r.2.2) else pV r.1 r.2.1 x
def tE(cC:fh)(x:GT):GT×Int:=pD x (kV x.b cC)
def vY(x:GT)(r:dS×(List cy×Int)):GT×Int:=
 if r.2.2=131 then(x,91) else if r.2.2≠0 then(x,r.2.2) else({x with b:=r.1,s:=dI x.s r.2.1},0)
def dQ(cC:fh)(x:GT):GT×Int:=
 (dG cC).elim (x,141) λp=>if p.2=qz then pD x (eX x.b cC) else vY x (ez x.b cC)
def iy(b:dS)(id:Nat)(cz:cy):dS:=⟨b.next,b.cE.map λs=>if s.id=id then {s with cz:=cz} else s⟩
def AY(x:GT)(r:dS×(List cy×Int)):GT×Int:=
 if r.2.2≠0 then(x,x8 r.2.2) else({x with b:=r.1,s:=dI x.s r.2.1},zS {x with b:=r.1,s:=dI x.s r.2.1})
def tT(id:Nat)(cz:cy)(iV:List cy)(x:GT):GT×Int:=AY x (kf (iy x.b id cz) id iV)
def vC(id:Nat)(x:GT)(t:Pl×(cy×(List cy×Int))):GT×Int:=
 if t.2.2.2≠0 then({x with s:=t.1},x8 t.2.2.2) else tT id t.2.1 t.2.2.1 {x with s:=t.1}
def nF(cC:fh)(i:Int)(bs:cD)(x:GT):GT×Int:=
 if(pT x.b cC i).2≠0 then(x,(pT x.b cC i).2) else if 128<bs.length then(x,92) else
 vC (pT x.b cC i).1.id x (kh x.s (pT x.b cC i).1.cz i bs)
def sD(cC:fh)(i:Int)(x:GT):GT×Int:=
 if(pT x.b cC i).2≠0 then(x,(pT x.b cC i).2) else vC (pT x.b cC i).1.id x (gC x.s (pT x.b cC i).1.cz i)
def asked(x:GT)(d:Dv):GT:={x with s:={x.s with dv:=d}}
def uI(x:GT)(r:GT×Int):GT×Int:=if r.2≠0 then(asked x r.1.s.dv,r.2) else(r.1,0)
def dB(x:GT)(k:GT->GT×Int):GT×Int:=if x.s.dv.cO=true then(x,42) else uI x (k x)
structure E0(x:GT):Prop where
 text:eQ x.b
 pK:x.dx.length<=100000
 ops:x.s.dv.ops<=990000000
def eK(w:cB)(K D:Nat)(x:GT):Prop:=∃G g M,vX w K G g D M x.s/\g.gt x.s=x/\eU x.dx
def kK.and{Y:cD->cB->Prop}(h:kK d X)(g:kK d Y):kK d (λB w=>X B w/\Y B w):=
 ⟨λa b=>⟨h.cx a.1 b,g.cx a.2 b⟩,λa b=>⟨h.add a.1 b,g.add a.2 b⟩,λa b=>⟨h.mono a.1 b,g.mono a.2 b⟩,λa b c t u v=>⟨h.but a.1 b c t u v,g.but a.2 b c t u v⟩,λa e=>h.dev a.1 e⟩
def dF.xB(h:dF w G g D M s)(e:∀b∈B,gx w b≠some 109/\gx w b≠some 106):pC G g D M s B w:=
 ⟨⟨⟨h.kq,h.row⟩,⟨⟨h.wA.1,λd b a c=>(e b c).1 (cK.ty h.wA.1 a d)⟩,λx f=>⟨h.wA.2 x f,λd b a c=>(e b c).2 (cK.ty (h.wA.2 x f) a d)⟩⟩⟩,⟨h.dx,λd b a c=>(e b c).2 (cK.ty ak2 a d)⟩⟩
def ye(K G:Nat)(g:gX)(D M:Nat)(s:Pl):cD->cB->Prop:=λB w=>pC G g D M s B w/\cu w K 101 1 (λ_=>.pointer (some ⟨G,0,none⟩))
def jy(K G:Nat)(g:gX)(D M:Nat)(s:Pl):kK (some D) (ye K G g D M s):=(gw G g D M s).obj (t:=101) (n:=1) (b:=K) (f:=λ_=>cZ G 0) ae
def ye.at{K:Nat}(h:ye K G g D M s B w):vX w K G g D M s:=⟨h.2,h.1.at⟩
def vX.x{K:Nat}(h:vX w K G g D M s):ye K G g D M s [] w:=⟨h.I8.x,h.row⟩
def dF.beside{a:Pl}(h:dF w G g D M s)(b:dF w' G2 g2 D M2 a)(f:Fr (some D) l w w')(c:G∉l)(d:M∉l)(e:g.P∉l):dF w' G g D M {s with dv:=a.dv}:=
 ⟨cu.fr h.row f au (.inr c),⟨cu.fr h.kq.row f au (.inr e),b.kq.dev,h.kq.map.fr f d,h.kq.ok⟩,
  ⟨cK.fr h.wA.1 f au ae,λx i=>cK.fr (h.wA.2 x i) f au ae⟩,cK.fr ak2 f au ae⟩
def St.Wg(S:St w0 d l L O X w)(a:kK d X')(b:X' (dM L O) w):St w0 d l L O X' w:=
 ⟨S.fr,S.row,S.own,S.lo,S.nd,b,a⟩
def aim:jF prog 118 1:=⟨⟨_,underlying118,ae⟩,cX⟩
instance in7b579 :rB 118 1:=⟨aim⟩
def XU:(#[.pointer none]:fJ)=ct 1 (λ_=>.pointer none):=rfl
instance in7c1c8 :ZR 118 1 (λ_=>.pointer none):=⟨_,zeroValue118,XU⟩
def A6(G D M:Nat)(g:gX)(s:Pl)(l:List cy)(y:eU l)(z:l.length<=1000000)(v:cI)(p:fJ)(d:p=ct 1 (λ_=>.pointer (some ⟨G,0,none⟩)))(w:cB)(h:dF w G g D M s)(R:ko w v l):
 CP_ 67 #[.agg p,v] w λe w'=>e=.returned (.tuple #[])/\dF w' G g D M (dI s l)/\Fr (some D) [M] w w':=by
 obtain⟨L,cap,rfl,u,b⟩:=du R;have H:=cq R;have b:=cq b;have E:=cq d;have F:=cq y;have S:=St.start w (some D) [M] (gw G g D M s) h.x;have m:=cq (pC.NF h.x);clear h R d y;go_enter func67,ntmps67;go_upto_region 2 with(refine ey λW S=>?_);go_loopw [8] (λi wr=>∃k:Nat,k<=l.length/\i=.int .i64 k/\Hid (St w (some D) [M] [⟨w.heap.size,118,1,λ_=>cZ G 0⟩] [] (pC G g D M (dI s (l.take k))) wr)) (λi _=>l.length-(intOf i).toNat);exact⟨0,cw,ae,cq S⟩;clear S;obtain⟨k,x,rfl,hS⟩:=hrel;by_cases a:k<l.length
 . (obtain⟨N,O,rfl⟩:=b.o cw;obtain⟨q,o⟩:=c8 (l[k]);obtain⟨A,j⟩:=eW (ct 3 (c7 q));have f:=cq (jK l a (A:=A) (by rw[o];exact j));have c:l[k]?=some q:=by rw[iz a,o]);have B:=cq λW h=>nT G D M g (dI s (l.take k)) W h;have r:=cq λW h=>F6 g.P D M (dI s (l.take k)) q (F.o q (kt c)) W h;rw[cP j,<-Jc c] at r;have C:=cq j;have S:=hS.o;clear hS j o c;have t:=cq a;go_upto_region 4 with(first|((with_reducible refine aQ_ ?_);refine Bf (H.o.fr S.fr au ae) a (tL C) f.o ?_)|refine ey λW S=>?_);refine dL S cX λW S=>?_;refine cJ 0 (cZ w.heap.size 0) ?_;refine cJ 1 (cZ G 0) ?_;refine cJ 3 (.agg A) ?_;refine jQ 2 λK n=>?_;go_wp2_with fail;refine lB (B.o _ S.x.at) ?_;refine fC n ?_;refine jQ 4 λK n=>?_;go_wp2_with fail;refine ah (r.o _ S.x.at.kq) λW⟨J,I⟩=>?_;replace S:=S.af1 I (λD e=>by cases e) (λk x=>.inl x) (by rw[eV];exact m.o.2.1) J;refine fC n ?_;refine pz ?_;go_wp2;go_roundw;have:=t.o;exact⟨k+1,cw,by go_num,cq S.pop⟩;have:=t.o;simp[intOf];omega
 . obtain rfl:k=l.length:=cw;have S:=hS.o;rw[oT] at S;go_wp2;refine El (ug ae _ _ _) ae ?_;exact⟨ae,S.x.at,S.fr⟩
end
section
def St.TT(S:St w0 d l L O X w)(i:dz w w')(ho:tp w' w.heap.size c):St w0 d l L O (λB w=>X B w/\qA c.sv c.l B w) w':=
 (S.cx i).B6 (eT c.sv c.l) ⟨⟨cK.iW ho.1,λ_ b a e=>by have g:=(ho.1.lt b a).1;have h:=S.lt b e;omega⟩,
  λx f=>⟨(ho.2 x f).1,λj b a e=>by have g:=(ho.2 x f).2 j b a;have h:=S.lt b e;omega⟩⟩
def St.L5(S:St w0 d l L O X w)(f:dz w w')(ho:tp w' w.heap.size c){g:List cy}(e:gg w' w.heap.size r g):St w0 d l L O (λB w=>(X B w/\qA c.sv c.l B w)/\xL 106 3 r g.length (gY g) B w) w':=
 (S.TT f ho).B6 (eI 106 3 r _ _ ae ae) ⟨cK.iW e,λ_ b a h=>by have i:=(e.lt b a).1;have j:=S.lt b h;omega⟩
end
def upR(id:Nat)(q:cy)(x:dg):dg:=if x.id=id then {x with cz:=q} else x
def tF(id:Nat)(q:cy)(l:List dg)(k:Nat):List dg:=(l.take k).map (upR id q)++l.drop k
theorem L6(id:Nat)(q:cy)(l:List dg)(k:Nat):(tF id q l k).length=l.length:=by grind[tF]
theorem acS{id:Nat}{l:List dg}(a:k<l.length):(tF id q l k)[k]?=some l[k]:=by unfold tF;grind
theorem acT{id:Nat}{l:List dg}(a:k<l.length):(tF id q l k).set k (upR id q l[k])=tF id q l (k+1):=by
 have b:k=((l.take k).map (upR id q)).length:=by grind
 unfold tF;rw[xf a,mI,set_append_right _ _ cw,<-b,Nat.sub_self,Eg a,z',wh];rfl
def Z4{id:Nat}{l:List dg}(a:k<l.length)(h:l[k].id≠id):tF id q l k=tF id q l (k+1):=by unfold tF;rw[xf a,mI,Eg a,wh];show _++l[k]::_=_++([upR id q l[k]]++_);rw[show upR id q l[k]=l[k] from cM h];rfl
def Z5{id:Nat}{l:List dg}(h:nE l B w):nE (tF id q l k) B w:=by intro x a;unfold tF at a;rcases fL.1 a with a|a;obtain⟨y,b,rfl⟩:=fM.1 a;have:=h y (lu b);unfold upR;split;exact this;omega;exact h x (mR a)
theorem acU(id:Nat)(q:cy)(n:Nat)(l:List dg):(⟨n,dJ (tF id q l l.length)⟩:dS)=iy ⟨n,dJ l⟩ id q:=by
 unfold tF iy dJ;rw[oT,drop_length,vd,sK,sK];congr 1;refine map_congr_left λx _=>?_;show(upR id q x).tocR=if x.tocR.id=id then _ else _;unfold upR
 grind
def Gs(h:eQ b)(id:Nat)(a:cY q):eQ (iy b id q):=
 eQ.of h.next (by unfold iy;rw[lV];exact h.fit.1) λs c=>by
  obtain⟨y,d,rfl⟩:=fM.1 c;have:=h.ok y d;split
  . exact⟨this.1,this.2.1,a,this.2.2.2⟩
  omega
section
attribute[local irreducible]wpList Code.wp Calls Oper.wp wpAnyH
theorem Gt(G D M:Nat)(g:gX)(s:Pl)(ht:eQ g.b.t)(hl:g.dx.length<=100000)(id:Nat)(q:cy)(hq:cY q)(iV:List cy)(J:eU iV)(Q:iV.length<=1000)(v:cI)(A:fJ)(hA:A=ct 1 (λ_=>Value.pointer (some ⟨G,0,none⟩)))(w:cB)(h:dF w G g D M s)(R:ko w v iV):
 CP_ 81 #[.agg A,.int .u64 id,lT q,v] w λe w'=>yb w w' G D M g (tT id q iV (g.gt s)) e:=by
 obtain⟨AQ,N⟩:=eW (ct 3 (c7 q));rw[cP N];have a7:=cq N;have HA:=cq hA;have HR:=cq R;have S:=St.start w (some D) [G,M,g.P] (gw G g D M s) h.x;have b3:=cq (pC.NF h.x);have C1:=cq λW(X:dF W G g D M s)=>kP G D M g s ht.fit W X;have O:=Gs ht id hq;have C2:=cq λ(c:dD)(B:fJ)(hB:B=ct 2 (dk c))(hc:c.t=iy g.b.t id q)W(R:gV W c)(RL:ko W v iV)=>(show CP_ 144 #[.agg B,.int .u64 id,v] W λe w'=>∃B r,e=.returned (.tuple #[.agg B,r,.int .i64 (kf (iy g.b.t id q) id iV).2.2])/\kT w' W.heap.size B (kf (iy g.b.t id q) id iV).1/\gg w' W.heap.size r (kf (iy g.b.t id q) id iV).2.1/\dz W w' from by rw[<-hc];exact Qi c B hB (by rw[hc];exact O.fit) id iV v (gO Q jR) W R RL);obtain⟨p,E,C⟩:=D6 O id iV J;have K:=cq (show tT id q iV (g.gt s)=AY (g.gt s) (kf (iy g.b.t id q) id iV) from ae);obtain⟨T,hT⟩:=c8 (tT id q iV (g.gt s));obtain⟨r,U⟩:=c8 (kf (iy g.b.t id q) id iV);rw[hT,U] at K;rw[hT];rw[U] at C2 p E C;obtain⟨b2,jk,c⟩:=r;simp only at C2 p E C;have C3:=cq λr W X(R:ko W r jk)=>A6 G D M g s jk E (gO C (gO Q jR)) r A hA W X R;have C4:=cq λ(y:dD)(B:fJ)(hB:B=ct 2 (dk y))(hc:y.t=b2)W(X:dF W G g D M (dI s jk))R=>r5 G D M g (dI s jk) y B hB (by rw[hc];exact p.fit) W X R;have C5:=cq λ(L:dD)(hc:L.t=b2)W(X:dF W G {g with b:=L} D M (dI s jk))=>(show rF 57 #[.agg A] W (.int .i64 (zS {g.gt s with b:=b2,s:=dI s jk})) from by rw[<-hc];exact yH G D M {g with b:=L} (dI s jk) A hA (show eQ L.t by rw[hc];exact p) W X (gO hl jR));have a1:=cq ht.fit;clear h R hA N ht hl hq J Q O p E C hT U;go_enter func81,ntmps81;go_upto_region 3 with(first|refine jl 14 69 13 S 1 0 (cZ G 0) ?_|refine zI S (C1.o _ S.x.at) λW B c1 HB HC _ S=>?_|(obtain⟨cn,a,f,d⟩:=c1;refine xM S 0 ae 1 (v:=.slice f a.length d) ae pR ae rk ?_)|refine ey λW S=>?_);have b5:a.length<=1000000:=by have u:=a1.o.1;rw[<-HC.o] at u;unfold dD.t at u;rwa [gj] at u
 go_loopw [19] (λi wr=>∃k:Nat,k<=a.length/\i=.int .i64 k/\Hid (St w (some D) [G,M,g.P] [⟨_,99,2,dk ⟨cn,a,f,d⟩⟩,⟨_,106,3,c7 q⟩,⟨_,118,1,λ_=>cZ G 0⟩] [⟨109,11,.slice f a.length d,a.length,ij (tF id q a k)⟩] (λB w=>pC G g D M s B w/\nE a B w) wr)) (λi _=>a.length-(intOf i).toNat);exact⟨0,cw,ae,cq S⟩;clear S;obtain⟨k,hk,rfl,hS⟩:=hrel;have S:=hS.o;clear hS;by_cases t:k<a.length
 . (obtain⟨I,rfl⟩:∃I,f=s_ I 0:=by obtain⟨I,cc,u⟩:=BW S.o0 (show 0<a.length by omega);simp only[kM] at u;exact⟨I,u.1⟩);(obtain⟨x,V⟩:=c8 (a[k]);have F:k<(tF id q a k).length:=by rw[L6];exact t);(have H:(tF id q a k)[k]=x:=by have u:=acS (id:=id) (q:=q) t;grind);(have j:(ij (tF id q a k))[k*11]?=some (.int .u64 x.id):=by have u:=mu (tF id q a k) F (A:=ct 11 (gq x)) (by rw[H]) 0 cw;rw[wi] at u;rw[u,cU,cL cw];rfl);have m:=cq j;have n:=cq t;by_cases l:x.id=id
   . have e1:decide ((x.id:Int)=(id:Int))=true:=fQ cw;have e2:((x.id:Int)==(id:Int))=true:=yl.2 cw;have e3:decide (x.id=id)=true:=fQ l;have o:=cq (show BL (ij (tF id q a k)) (k*11+7) (ct 3 (c7 q)).toList=ij (tF id q a (k+1)) from by
      rw[<-acT t,V,show upR id q x= {x with cz:=q} from cL l];exact Oy F H q _ (λi hi=>by unfold gq;rcases i with(_|_|_|_|_|_|_|_|_|_|_|i)<;>first|rfl))
     clear V F H j l;go_wp2_with (first|(first|refine jl 23 97 22 S 0 1 (.slice (s_ I 0) a.length d) ?_|refine jl 31 97 30 S 0 1 (.slice (s_ I 0) a.length d) ?_)|refine yi (v:=.int .u64 x.id) (x5 S.o0 (by simpa using m.o)) ?_|(refine lF ae λK9 a3=>ach S 0 ae ae (k*11+7) (z:=3) (by have:=n.o;show k*11+7+3<=a.length*11;omega) ae ae a7.o eN (df _) λW S2=>a3 _ _ ?_;rw[show(⟨109,11,.slice (s_ I 0) a.length d,a.length,ij (tF id q a k)⟩:O4).xs=ij (tF id q a k) from ae,o.o] at S2;clear a3 S;have S:=S2;clear S2)|refine eR ?_);go_roundw;have:=n.o;exact⟨k+1,cw,by go_num,cq S⟩;have:=n.o;simp[intOf];omega
   . have e1:decide ((x.id:Int)=(id:Int))=false:=iC cw;have e2:((x.id:Int)==(id:Int))=false:=lx.2 cw;have e3:decide (x.id=id)=false:=iC l;have o:=cq (Z4 (id:=id) (q:=q) t (by rw[V];exact l));clear V F H j l;go_wp2_with (first|refine jl 23 97 22 S 0 1 (.slice (s_ I 0) a.length d) ?_|refine yi (v:=.int .u64 x.id) (x5 S.o0 (by simpa using m.o)) ?_);go_roundw;have:=n.o;rw[o.o] at S;exact⟨k+1,cw,by go_num,cq S⟩;have:=n.o;simp[intOf];omega
 . obtain rfl:k=a.length:=cw;have a8:=cq (show B=ct 2 (dk ⟨cn,tF id q a a.length,f,d⟩) from by rw[HB.o];unfold dk dD.sv;simp only[L6]);have b1:=cq (show(dD.t ⟨cn,tF id q a a.length,f,d⟩)=iy g.b.t id q from by rw[<-HC.o];exact acU id q cn a);have a6:=λ(W:cB)(X:W.ownsRow w.heap.size 109 11 (.slice f a.length d) a.length (ij (tF id q a a.length)))=>(show cK W 109 11 (.slice f (tF id q a a.length).length d) (tF id q a a.length).length (ij (tF id q a a.length)) from by rw[L6];exact cK.iW X);have b4:=cq a6;clear a6;go_upto_region 9 with(first|(refine(C2.o _ B a8.out b1.out _ ⟨b4.o _ S.o0,λx V=>(Z5 (B:=dM _ _) S.x.2 x V).1⟩ (HR.o.fr S.fr au ae)).mono ?_;rintro e W ⟨B2,r,rfl,⟨y,a2,a4,a5⟩,U,hb⟩;have a9:=cq a2;have Y:=cq a4;have HF:=cq (cS U);replace S:=S.L5 hb a5 U;clear a2 a4 a5 U;obtain⟨ra,rc,rfl⟩:=HF.o;clear HF)|refine eR ?_|refine ey λW S=>?_);unfold AY at K;simp only at K;by_cases g2:c=0;(case neg=>have g3:(c !=0)=true:=eO.2 g2;rw[cL g2] at K;clear g2;go_wp2_with (refine(qY c _).mono ?_;rintro e W ⟨rfl,rfl⟩;);go_ret;rw[K.o];exact⟨g,s,ae,ae,S.x.1.1.1.at,ae,λh=>h,S.fr⟩);subst g2;rw[cM aE] at K;go_wp2_with (first|(first|refine jl 53 69 52 S 2 0 (cZ G 0) ?_)|(refine ah (C3.o _ _ S.x.1.1.1.at S.x.2.1) λW⟨hg,hf⟩=>?_;replace S:=S.call (X':=λB w=>pC G g D M (dI s jk) B w/\qA y.sv y.l B w) hf ar (λk hk=>.inl (by rw[eV.1 hk];simp)) ((gw G g D M _).still (eT y.sv y.l)) (λB h=>⟨h.1.1.1.pl hf (by rw[eV];exact b3.o.2.1) hg.kq,(eT _ _).fr h.1.2 hf⟩);clear hg)|(refine ag (C4.o y B2 a9.o Y.o _ S.x.1.at S.x.2.sl) λL W⟨hc,hg,ho,hf⟩=>?_;have Z:=cq (hc.trans Y.o);replace S:=(S.Dx (λB w h=>h.1) (gw G g D M _)).Wb hg ho hf aV;clear hc hg)|refine je S (C5.o L Z.o _ S.x.at) λW S=>?_|refine eR ?_);go_ret;rw[K.o];exact⟨{g with b:=L},dI s jk,ae,ae,S.x.at,by unfold gX.gt;rw[<-Z.o],λh=>h,S.fr⟩
def OR(q:Nat)(a:Option Addr)(n c:Nat)(W:cB):Sem.run prog (Instr.field 99 (.agg #[.int .u64 (q:Int),.slice a n c]) 1) W=.ok (.slice a n c) W:=by rfl
theorem gV.fr{d:Option Nat}{l:cD}{w w':cB}{b:dD}(h:gV w b)(f:Fr d l w w'):gV w' b:=
 ⟨cK.fr h.1 f au ae,λx a=>cK.fr (h.2 x a) f au ae⟩
def Ea(G D M:Nat)(g:gX)(s:Pl)(Z:eQ g.b.t)(b:dD)(B:fJ)(V:B=ct 2 (dk b))(E:xZ b.t)(y:dg)(H:fJ)(C:H=ct 11 (gq y))(F:cY y.cz)(A:fJ)(U:A=ct 1 (λ_=>.pointer (some ⟨G,0,none⟩)))(w:cB)(h:dF w G g D M s)(R:gV w b):
 CP_ 65 #[.agg A,.agg B,.agg H] w λe w'=>yb w w' G D M g (pV b.t y.tocR (g.gt s)) e:=by
 have HA:=cq U;have HB:=cq V;have H:=cq C;have HR:=cq R;obtain⟨AQ,n⟩:=eW (ct 3 (c7 y.cz));have J:=cq n;have S:=St.start w (some D) [G,M,g.P] (gw G g D M s) h.x;have N:=cq (pC.NF h.x);have CP:=cq λW(X:dF W G g D M s)=>nT G D M g s W X;have C2:=cq λW(X:dF W G g D M s)=>kP G D M g s Z.fit W X;obtain⟨z,t⟩:=c8 (eM g.b.t.cE y.id);have C3:=cq λ(m:List dg)(v:cI)(I:dJ m=g.b.t.cE)W(R:fE W v m)=>(show rF 114 #[v,.int .u64 y.id] W (.int .u64 z) from by rw[<-t,<-I];exact Dg m v y.id (by have H:=Z.fit.1;rw[<-I,gj] at H;exact H) W R);have I:=cq λW X=>Ja g.P D M s y.cz F z W X;obtain⟨i,f,-⟩:=D8 (s:=s) h.kq.dev.1.nw F z;have l:=cq (show pV b.t y.tocR (g.gt s)=wL b.t (g.gt s) (fA s y.cz z) from by rw[<-t];rfl);obtain⟨T,Y⟩:=c8 (pV b.t y.tocR (g.gt s));obtain⟨r,H⟩:=c8 (fA s y.cz z);rw[Y,H] at l;rw[Y];rw[cP n,H] at I;rw[H] at i f;obtain⟨j,jk,c⟩:=r;simp only at I i f;unfold wL at l;simp only at l;have C5:=cq λr W X(R:ko W r jk)=>A6 G D M g j jk i (gO f jR) r A U W X R;have C6:=cq λW(X:dF W G g D M (dI j jk))R=>r5 G D M g (dI j jk) b B V E W X R;clear h R U V C n Z E F t i f Y H;go_enter func65,ntmps65;go_upto_region 1 with(first|refine xN S rfl HA.o rfl λF S=>?_|refine xN S rfl HB.o rfl λO S=>?_|refine ey λW S=>?_);refine dN S cX [⟨O.heap.size,109,11,gq y⟩,⟨F.heap.size,99,2,dk b⟩,⟨w.heap.size,118,1,λ_=>cZ G 0⟩] Be λW S=>?_;refine cJ 0 (cZ w.heap.size 0) ?_;refine cJ 1 (cZ G 0) ?_;refine cJ 3 (cZ O.heap.size 7) ?_;refine fW 4 (.agg AQ) ae (yKn aF (o:=7) (m:=3) ae (c7 y.cz) (show 7+3<=11 by decide) (uE y) J.o eN) ?_;refine cJ 5 (cZ w.heap.size 0) ?_;refine cJ 6 (cZ G 0) ?_;refine cJ 9 (cZ O.heap.size 0) ?_;refine cJ 10 (.int .u64 y.id) ?_;refine jQ 2 λK p=>?_;go_wp2_with fail;refine lB (CP.o _ S.x.at) ?_;refine fC p ?_;refine jQ 7 λK p=>?_;go_wp2_with fail;refine(C2.o _ S.x.at).mono ?_;rintro e W ⟨F,rfl,⟨⟨Q,u,d,a⟩,rfl,hc,ho⟩,F⟩;have H:=cq hc;replace S:=S.jv F ho;clear hc;rw[show ct 2 (dk ⟨Q,u,d,a⟩)=#[.int .u64 Q,.slice d u.length a] from ae];refine fC p ?_;refine fW 8 (.slice d u.length a) ae (Or.inl ⟨cX,λw F=>by have F:=OR Q d u.length a w;go_simp⟩) ?_;refine jQ 11 λK p=>?_;go_wp2_with fail;refine je S (C3.o u _ (fK dS.cE H.o) _ ⟨S.q0,λx F=>(S.x.2 x F).1⟩) λW S=>?_;refine fC p ?_;refine jQ 12 λK p=>?_;go_wp2_with fail;refine ag (I.o _ S.x.1.at.kq) λr W⟨ho,H,q⟩=>?_;have F:=cq (cS ho);replace S:=S.sf (X':=pC G g D M j) q ar dU (gw G g D M j) (λB h=>h.1.pl q dU H) ho ae ae;obtain⟨H,I,rfl⟩:=F.o;refine fC p ?_;refine cJ 13 _ ?_;refine cJ 14 (.slice H jk.length I) ?_;refine cJ 15 (.int .i64 c) ?_;refine cJ 16 _ ?_;refine cJ 17 _ ?_;refine pz ?_;by_cases g2:c=0;case neg=>have g3:(c !=0)=true:=eO.2 g2;rw[cL g2] at l;clear g2;go_wp2_with (refine(qY c _).mono ?_;rintro e W ⟨rfl,rfl⟩;);go_ret;rw[l.o];exact⟨g,j,ae,ae,S.x.at,ae,id,S.fr⟩
 subst g2;rw[cM aE] at l;go_wp2_with (first|(refine ah (C5.o _ _ S.x.at S.q0) λW⟨F,q⟩=>?_;replace S:=S.call (X':=pC G g D M (dI j jk)) q ar (λk H=>.inl (by rw[eV.1 H];simp)) (gw G g D M _) (λB h=>h.pl q (by rw[eV];exact N.o.2.1) F.kq);clear F)|(refine ag (C6.o _ S.x.at (gV.fr HR.o S.fr)) λH W⟨hc,F,ho,q⟩=>?_;have L:=cq hc;replace S:=S.Wb F ho q aV;clear hc F)|refine eR ?_);go_ret;rw[l.o];exact⟨{g with b:=H},dI j jk,ae,ae,S.x.at,by unfold gX.gt;rw[<-L.o],id,S.fr⟩
theorem rd3{i j:Nat}{o o' d:Oper}(f:Region.ready .any ops listed=[i,j,k])(ho:ops[i]?=some o)(b:ops[j]?=some o')(c:ops[k]?=some d)(p:Region.wanted o (yielded ops a.tmps)=true)(g:Region.wanted o' (yielded ops a.tmps)=true)(l:Region.wanted d (yielded ops a.tmps)=true)(h:∀K,Shut (∀a w,SS w->(SS w->wpAnyH P .any ops Q SS fuel (listed.setIfInBounds i true) a w)->K a w)->o.wp P a w K Q)(m:∀K,Shut (∀a w,SS w->(SS w->wpAnyH P .any ops Q SS fuel (listed.setIfInBounds j true) a w)->K a w)->o'.wp P a w K Q)(n:∀K,Shut (∀a w,SS w->(SS w->wpAnyH P .any ops Q SS fuel (listed.setIfInBounds k true) a w)->K a w)->d.wp P a w K Q):wpAnyH P .any ops Q SS (fuel+1) listed a w:=
 wpAnyH_ready f dU (AllReadyH.cons ho (λK e=>by grind) (AllReadyH.cons b (λK e=>by grind) (AllReadyH.cons c (λK e=>by grind) .nil)))
def Z6(G D M:Nat)(g:gX)(s:Pl)(Y:eQ g.b.t)(cC:fh)(H:cC.size<=140737488355328)(p:Nat)(w:cB)(h:dF w G g D M s)(V:cu w p 9 1 (λ_=>.string cC)):
 CP_ 100 (#[.agg (ct 1 λ_=>.pointer (some ⟨G,0,none⟩))]++ #[.pointer (some ⟨p,0,none⟩)]) w λe w'=>yb w w' G D M g (tE cC (g.gt s)) e:=by
 show CP_ 100 #[.agg (ct 1 λ_=>cZ G 0),cZ p 0] w _;obtain⟨A,F⟩:=eW (ct 1 (λ_=>cZ G 0));rw[<-F];have I:=cq F;have S:=St.start w (some D) [G,M,g.P] (gw G g D M s) h.x;have C2:=cq λW(X:dF W G g D M s)=>kP G D M g s Y.fit W X;have I:=cq λ(c:dD)(B:fJ)(d:B=ct 2 (dk c))(hc:c.t=g.b.t)W(R:gV W c)=>(show CP_ 101 #[.agg B,.string cC] W λe w'=>∃B D,e=.returned (.tuple #[.agg B,.agg D,.int .i64 (kV g.b.t cC).2.2])/\kT w' W.heap.size B (kV g.b.t cC).1/\xY w' W.heap.size D (kV g.b.t cC).2.1/\dz W w' from by rw[<-hc];exact Qh c B d (by rw[hc];exact Y.fit) cC H W R);obtain⟨u,v⟩:=D5 Y cC;have z:=cq (show tE cC (g.gt s)=pD (g.gt s) (kV g.b.t cC) from ae);obtain⟨T,J⟩:=c8 (tE cC (g.gt s));obtain⟨r,N⟩:=c8 (kV g.b.t cC);rw[J,N] at z;rw[J];rw[N] at I u v;obtain⟨H,t2,c⟩:=r;simp only at I u v;unfold pD at z;simp only at z;have C4:=cq λ(q:dD)(B:fJ)(d:B=ct 2 (dk q))(hc:q.t=H)(y:dg)(Z:fJ)(H:Z=ct 11 (gq y))(m:y.tocR=t2)W X R=>Ea G D M g s Y q B d (by rw[hc];exact u.fit) y Z H (by have H:=v.2.2.1;rw[<-m] at H;exact H) A F W X R;have H:=cq V;clear h F Y J N u v V;go_enter func100,ntmps100
 go_upto_region 1 with(refine ey λW S=>?_);refine dN S cX [⟨w.heap.size,118,1,λ_=>cZ G 0⟩] Be λW S=>?_;refine cJ 0 (cZ w.heap.size 0) ?_;refine cJ 1 (cZ G 0) ?_;refine fW 3 (.string cC) ae (fR (λw h=>cu.cell (cu.fr H.o h.fr au ax) (i:=0) cw) ae ET) ?_;all_goals(first|refine rd3 (i:=2) (j:=9) (k:=10) dk_ ae ae ae cX cX cX (λK a=>?_) (λK a=>?_) (λK a=>?_))
 all_goals(first|(go_wp2_with fail;refine zI S (C2.o _ S.x.at) λW B p N O _ S=>?_;refine fC a ?_)|(refine fu S rl mZ ae λJ W S=>?_;refine fC a ?_)|(refine fu S wx oB ae λL W S=>?_;refine fC a ?_))
 all_goals(clear a K)
 all_goals(first|(refine rd3 (i:=4) (j:=9) (k:=10) dk_ ae ae ae cX cX cX (λK a=>?_) (λK a=>?_) (λK a=>?_))|(refine zX 2 10 (λK a=>?_) λK a=>?_)|refine zX 2 9 (λK a=>?_) λK a=>?_)
 all_goals(first|(go_wp2_with fail;refine(I.o p B N.o O.o _ ⟨S.q0,λx E=>(S.x.2 x E).1⟩).mono ?_;rintro e W ⟨F,H,rfl,⟨q,d,hc,ho⟩,⟨Z,C,m,-⟩,U⟩;have f:=cq d;have n:=cq hc;have l:=cq C;have o:=cq m;replace S:=S.jv U ho;clear d hc C m;refine fC a ?_)|(refine fu S rl mZ ae λJ W S=>?_;refine fC a ?_)|(refine fu S wx oB ae λL W S=>?_;refine fC a ?_)|(go_wp2_with fail;refine zI S (C2.o _ S.x.at) λW B p N O _ S=>?_;refine fC a ?_))
 all_goals(clear a K)
 all_goals(try(refine mi 5 _ ?_))
 all_goals(try(refine mi 6 (.agg F) ?_))
 all_goals(try(refine mi 7 (.agg H) ?_))
 all_goals(try(refine mi 8 (.int .i64 c) ?_))
 all_goals(first|(refine zX 9 10 (λK a=>?_) λK a=>?_)|(refine zX 4 10 (λK a=>?_) λK a=>?_)|(refine zX 4 9 (λK a=>?_) λK a=>?_)|refine oJ 2 λK a=>?_)
 all_goals(first|(refine fu S rl mZ ae λJ W S=>?_;refine fC a ?_)|(refine fu S wx oB ae λL W S=>?_;refine fC a ?_)|(go_wp2_with fail;refine(I.o p B N.o O.o _ ⟨S.q0,λx E=>(S.x.2 x E).1⟩).mono ?_;rintro e W ⟨F,H,rfl,⟨q,d,hc,ho⟩,⟨Z,C,m,-⟩,U⟩;have f:=cq d;have n:=cq hc;have l:=cq C;have o:=cq m;replace S:=S.jv U ho;clear d hc C m;refine fC a ?_)|(go_wp2_with fail;refine zI S (C2.o _ S.x.at) λW B p N O _ S=>?_;refine fC a ?_))
 all_goals(clear a K)
 all_goals(try(refine mi 5 _ ?_))
 all_goals(try(refine mi 6 (.agg F) ?_))
 all_goals(try(refine mi 7 (.agg H) ?_))
 all_goals(try(refine mi 8 (.int .i64 c) ?_))
 all_goals(first|(refine oJ 10 λK a=>?_)|(refine oJ 9 λK a=>?_)|refine oJ 4 λK a=>?_)
 all_goals(first|(refine fu S wx oB ae λL W S=>?_;refine fC a ?_)|(refine fu S rl mZ ae λJ W S=>?_;refine fC a ?_)|(go_wp2_with fail;refine(I.o p B N.o O.o _ ⟨S.q0,λx E=>(S.x.2 x E).1⟩).mono ?_;rintro e W ⟨F,H,rfl,⟨q,d,hc,ho⟩,⟨Z,C,m,-⟩,U⟩;have f:=cq d;have n:=cq hc;have l:=cq C;have o:=cq m;replace S:=S.jv U ho;clear d hc C m;refine fC a ?_))
 all_goals(clear a K)
 all_goals(try(refine mi 5 _ ?_))
 all_goals(try(refine mi 6 (.agg F) ?_))
 all_goals(try(refine mi 7 (.agg H) ?_))
 all_goals(try(refine mi 8 (.int .i64 c) ?_))
 all_goals(first|refine oJ 11 λK a=>?_)
 all_goals(first|((first|(refine ju S 0 ae ae ae f.o mP (eY _) λW S=>?_)|refine ju S 1 rfl rfl rfl f.o mP (eY _) λW S=>?_);refine fC a ?_))
 all_goals(clear a K)
 all_goals(first|refine oJ 12 λK a=>?_)
 all_goals(first|((first|(refine ju S 0 ae ae ae l.o tf (lM _) λW S=>?_)|refine ju S 1 rfl rfl rfl l.o tf (lM _) λW S=>?_);refine fC a ?_))
 all_goals(clear a K)
 all_goals(refine cJ 13 _ ?_)
 all_goals(refine pz ?_)
 all_goals(
  first|(replace S:St w (some D) [G,M,g.P] [⟨L,109,11,gq Z⟩,⟨J,99,2,dk q⟩,⟨w.heap.size,118,1,λ_=>cZ G 0⟩] _ _ _:=S)|(replace S:St w (some D) [G,M,g.P] [⟨L,109,11,gq Z⟩,⟨J,99,2,dk q⟩,⟨w.heap.size,118,1,λ_=>cZ G 0⟩] _ _ _:=S.acs)
  by_cases g2:c=0
  case neg=>
   have g3:(c !=0)=true:=eO.2 g2;rw[cL g2] at z;clear g2;go_wp2;go_ret;rw[z.o];exact bC
  subst g2;rw[cM aE,<-n.o,<-o.o] at z
  go_wp2_with first|(go_at_call 65;refine(C4.o q F f.o n.o Z H l.o o.o _ S.x.1.1.at ⟨S.q0,λx E=>(S.x.2 x E).1⟩).mono ?_;rintro e W a;have Q:=cq a;clear a;obtain⟨g3,N,rfl,F,H,b,t,I⟩:=Q.o;clear Q;have J:=S.fr.step I ar (λk I=>.inl I);have I:=cq (And.intro F (And.intro H (And.intro b t)));clear F H b t;rw[<-z.o])|refine eR ?_
  go_ret;obtain⟨F,H,b,t⟩:=I.o;rw[<-z.o] at b;exact⟨g3,N,ae,F,H,b,t,J⟩)
def J5(h:eQ b)(cC:fh)(i:Int):tC (pT b cC i).1:=by unfold pT;cases dG cC with|none=>exact nV|some p=>simp only[Aa];split;unfold rN;simp only;split;exact nV;split;exact nV;split;exact nV;exact TQ h.ok _;exact nV
def XV(bs:cD)(i:Int)(x:GT)(v:cR×Int):GT×Int:=
 if v.2≠0 then(x,v.2) else if 128<bs.length then(x,92) else vC v.1.id x (kh x.s v.1.cz i bs)
def acV(i:Int)(x:GT)(v:cR×Int):GT×Int:=if v.2≠0 then(x,v.2) else vC v.1.id x (gC x.s v.1.cz i)
theorem Wh(G D M:Nat)(g:gX)(s:Pl)(ht:eQ g.b.t)(hl:g.dx.length<=100000)(ho:s.dv.ops<=990000000)(cC:fh)(a9:cC.size<=140737488355328)(i:Int)(bs:cD)(ba:Option Addr)(bc:Nat)(c1 c2 c3:Nat)(w:cB)(h:dF w G g D M s)(a7:kZ w 5 (.slice ba bs.length bc) bs)(L:cu w c1 9 1 (λ_=>.string cC))(N:cu w c2 3 1 (λ_=>.int .i64 i))(O:cu w c3 22 1 (λ_=>.slice ba bs.length bc)):
 CP_ 78 (#[.agg (ct 1 λ_=>.pointer (some ⟨G,0,none⟩))]++ #[.pointer (some ⟨c1,0,none⟩),.pointer (some ⟨c2,0,none⟩),.pointer (some ⟨c3,0,none⟩)]) w λe w'=>yb w w' G D M g (nF cC i bs (g.gt s)) e:=by
 show CP_ 78 #[.agg (ct 1 λ_=>cZ G 0),cZ c1 0,cZ c2 0,cZ c3 0] w _;obtain⟨A,J⟩:=eW (ct 1 (λ_=>cZ G 0));rw[<-J];have HA:=cq J;have S:=St.start w (some D) [G,M,g.P] (gw G g D M s) h.x;have a3:=cq (pC.NF h.x);have CP:=cq λW(X:dF W G g D M s)=>nT G D M g s W X;have C1:=cq λW(X:dF W G g D M s)=>Ci G D M g s A J ht.fit cC a9 i W X;have z:=J5 ht cC i;obtain⟨vb,Y⟩:=c8 (pT g.b.t cC i);have b:=cq (show nF cC i bs (g.gt s)=XV bs i (g.gt s) (pT g.b.t cC i) from ae);obtain⟨T,hT⟩:=c8 (nF cC i bs (g.gt s));rw[hT,Y] at b;rw[hT];rw[Y] at C1 z;obtain⟨t0,cv⟩:=vb;simp only at C1 z;unfold XV at b;simp only at b;have a8:=h.kq.dev.1;have b2:=h.kq.ok.1;have E:=cq λ(y:dg)(f:cY y.cz)W(X:ej W g.P D M s)(F:Fr (some D) [G,M,g.P] w W)=>Tl g.P D M s (gO ho jR) y.cz f i (.slice ba bs.length bc) bs W X (kZ.fr a7 F au ae);have Z:=cq λC(y:dg)q(hq:cY q)iV(Q:eU iV)(b1:iV.length<=1000)r W X R=>Gt G D M g C ht hl y.id q hq iV Q b1 r A J W X R;have a5:=cq λ(y:dg)(f:cY y.cz)=>D9 a8 b2 f i bs;have a6:=cq L;have I:=cq N;have l:=cq O;have HV:=cq z.2.2.1;clear J L N O;go_enter func78,ntmps78
 go_upto_region 2 with(first|(first|refine yi (cu.cell (cu.fr a6.o S.fr au ax) (i:=0) cw) ?_|refine yi (cu.cell (cu.fr I.o S.fr au ax) (i:=0) cw) ?_)|(refine(C1.o _ S.x.at).mono ?_;rintro e WV ⟨B,rfl,⟨y,hB,hy,-⟩,hb⟩;have HB:=cq hB;have HY:=cq hy;replace S:=S.cx hb;clear hB hy)|refine eR ?_|refine ey λW S=>?_);by_cases g2:cv=0;case neg=>have g3:(cv !=0)=true:=eO.2 g2;rw[cL g2] at b;go_wp2;go_ret;rw[b.o];exact aO
 subst g2;rw[cM aE] at b;by_cases g5:128<bs.length;case pos=>have g6:decide (128<bs.length)=true:=fQ g5;have g7:decide ((128:Int)<(bs.length:Int))=true:=fQ cw;rw[cL g5] at b;go_wp2_with (refine iB (cu.cell (cu.fr l.o S.fr au ax) (i:=0) cw) ae Tc ?_);go_ret;rw[b.o];exact aO
 have g6:decide (128<bs.length)=false:=iC g5;have g7:decide ((128:Int)<(bs.length:Int))=false:=iC cw;rw[cM g5] at b;rw[<-HY.o] at b;have f:cY y.cz:=by have h1:=HV.o;rw[<-HY.o] at h1;exact h1
 obtain⟨p,u,v⟩:=a5.o y f;have E:=cq (E.o y f);obtain⟨t,V⟩:=c8 (kh s y.cz i bs);rw[show y.tocR.cz=y.cz from ae,show(g.gt s).s=s from ae,V] at b;rw[V] at E p u v;obtain⟨C,q1,iV,c⟩:=t;simp only at E p u v;obtain⟨AQ,n⟩:=eW (ct 3 (c7 y.cz));obtain⟨A1,j⟩:=eW (ct 3 (c7 q1));rw[cP n,cP j] at E;have Z:=cq (Z.o C y q1 p iV u (gO v jR));rw[cP j] at Z;have a2:=cq n;have a1:=cq j;unfold vC at b;simp only at b;clear n j;go_upto_region 6 with(refine iB (cu.cell (cu.fr l.o S.fr au ax) (i:=0) cw) ae Tc ?_);refine dN S cX [⟨WV.heap.size,109,11,gq y⟩,⟨w.heap.size,118,1,λ_=>cZ G 0⟩] Be λW S=>?_;refine cJ 0 (cZ w.heap.size 0) ?_;refine cJ 1 (cZ G 0) ?_;refine cJ 3 (cZ WV.heap.size 7) ?_;refine fW 4 (.agg AQ) ae (yKn aF (o:=7) (m:=3) ae (c7 y.cz) (show 7+3<=11 by decide) (uE y) a2.o eN) ?_;refine fW 5 (.int .i64 i) ae (fR (λw h=>cu.cell (cu.fr I.o h.fr au ax) (i:=0) cw) ae BU) ?_;refine fW 6 (.slice ba bs.length bc) ae (fR (λw h=>cu.cell (cu.fr l.o h.fr au ax) (i:=0) cw) ae Tc) ?_;repeat' first|refine Rp ?_|refine mi 8 _ ?_|refine mi 9 (.agg A1) ?_|refine mi 10 (.slice ra iV.length rc) ?_|refine mi 11 (.int .i64 c) ?_|refine mi 14 _ ?_|refine mi 15 _ ?_|refine zX 2 12 (λK a=>?_) λK a=>?_|refine zX 7 12 (λK a=>?_) λK a=>?_|refine oJ 2 λK a=>?_|refine oJ 12 λK a=>?_|refine oJ 7 λK a=>?_|refine oJ 13 λK a=>?_|(go_wp2_with fail;refine lB (CP.o _ S.x.at) ?_;refine fC a ?_;clear a)|(refine fu S vV gQ ae λE8 W S=>?_;refine fC a ?_;clear a)|(go_wp2_with fail;refine ag (E.o _ S.x.at.kq S.fr) λr W⟨U,hp,F⟩=>?_;have HF:=cq (cS U);replace S:=S.sf (X':=pC G g D M C) F ar (λk hk=>.inl (by rw[eV.1 hk];simp)) (gw G g D M C) (λB h=>h.pl F (by rw[eV];exact a3.o.2.1) hp) U ae ae;obtain⟨ra,rc,rfl⟩:=HF.o;refine fC a ?_;clear a)|(refine ju S 0 ae ae ae a1.o eN (df _) λW S=>?_;refine fC a ?_;clear a)
 all_goals(
  refine cq ?_;by_cases g2:c=0
  case neg=>
   have g3:(c !=0)=true:=eO.2 g2;rw[cL g2] at b
   go_wp2_with (refine(qY c _).mono ?_;rintro e W ⟨rfl,rfl⟩;)
   go_ret;rw[b.o];exact⟨g,C,ae,ae,S.x.at,ae,id,S.fr⟩
  subst g2;rw[cM aE] at b;have H:=cq (show T=tT y.id q1 iV (g.gt C) from b.o)
  go_wp2_with first|(refine(Z.o _ _ S.x.at S.q0).mono ?_;rintro e W a;have a4:=cq a;clear a;obtain⟨g3,s3,rfl,hP,hg,d,x,F⟩:=a4.o;have hF:=S.fr.step F ar (λk hk=>.inl hk);have HR:=cq (And.intro hP (And.intro hg (And.intro d x)));rw[<-H.o])|refine eR ?_
  go_ret;obtain⟨hP,hg,d,x⟩:=HR.o;rw[<-H.o] at d;exact⟨g3,s3,ae,hP,hg,d,x,hF⟩)
def Z7(G D M:Nat)(g:gX)(s:Pl)(ht:eQ g.b.t)(hl:g.dx.length<=100000)(ho:s.dv.ops<=990000000)(cC:fh)(a7:cC.size<=140737488355328)(i:Int)(c1 c2:Nat)(w:cB)(h:dF w G g D M s)(I:cu w c1 9 1 (λ_=>.string cC))(J:cu w c2 3 1 (λ_=>.int .i64 i)):
 CP_ 94 (#[.agg (ct 1 λ_=>.pointer (some ⟨G,0,none⟩))]++ #[.pointer (some ⟨c1,0,none⟩),.pointer (some ⟨c2,0,none⟩)]) w λe w'=>yb w w' G D M g (sD cC i (g.gt s)) e:=by
 show CP_ 94 #[.agg (ct 1 λ_=>cZ G 0),cZ c1 0,cZ c2 0] w _;obtain⟨A,H⟩:=eW (ct 1 (λ_=>cZ G 0));rw[<-H];have HA:=cq H;have S:=St.start w (some D) [G,M,g.P] (gw G g D M s) h.x;have a2:=cq (pC.NF h.x);have CP:=cq λW(X:dF W G g D M s)=>nT G D M g s W X;have Y:=cq λW(X:dF W G g D M s)=>Ci G D M g s A H ht.fit cC a7 i W X;have x:=J5 ht cC i;obtain⟨vb,U⟩:=c8 (pT g.b.t cC i);have b:=cq (show sD cC i (g.gt s)=acV i (g.gt s) (pT g.b.t cC i) from ae);obtain⟨T,hT⟩:=c8 (sD cC i (g.gt s));rw[hT,U] at b;rw[hT];rw[U] at Y x;obtain⟨t0,cv⟩:=vb;simp only at Y x;unfold acV at b;simp only at b;have a6:=h.kq.dev.1;have a9:=h.kq.ok.1;have C:=cq λ(y:dg)(f:cY y.cz)W(X:ej W g.P D M s)(L:Fr (some D) [G,M,g.P] w W)=>Qt g.P D M s (gO ho jR) y.cz f i W X;have V:=cq λz(y:dg)q(hq:cY q)iV(N:eU iV)(a8:iV.length<=1000)r W X R=>Gt G D M g z ht hl y.id q hq iV N a8 r A H W X R;have a4:=cq λ(y:dg)(f:cY y.cz)=>Cr a6 a9 f i;have a5:=cq I;have F:=cq J;have HV:=cq x.2.2.1;clear H I J;go_enter func94,ntmps94
 go_upto_region 2 with(first|(first|refine yi (cu.cell (cu.fr a5.o S.fr au ax) (i:=0) cw) ?_|refine yi (cu.cell (cu.fr F.o S.fr au ax) (i:=0) cw) ?_)|(refine(Y.o _ S.x.at).mono ?_;rintro e WV ⟨B,rfl,⟨y,hB,hy,-⟩,hb⟩;have HB:=cq hB;have HY:=cq hy;replace S:=S.cx hb;clear hB hy)|refine eR ?_|refine ey λW S=>?_);by_cases g2:cv=0;case neg=>have g3:(cv !=0)=true:=eO.2 g2;rw[cL g2] at b;go_wp2;go_ret;rw[b.o];exact aO
 subst g2;rw[cM aE] at b;rw[<-HY.o] at b;have f:cY y.cz:=by have h1:=HV.o;rw[<-HY.o] at h1;exact h1
 obtain⟨n,p,u⟩:=a4.o y f;have C:=cq (C.o y f);obtain⟨t,Q⟩:=c8 (gC s y.cz i);rw[show y.tocR.cz=y.cz from ae,show(g.gt s).s=s from ae,Q] at b;rw[Q] at C n p u;obtain⟨z,q1,iV,c⟩:=t;simp only at C n p u;obtain⟨AQ,l⟩:=eW (ct 3 (c7 y.cz));obtain⟨A1,j⟩:=eW (ct 3 (c7 q1));rw[cP l,cP j] at C;have V:=cq (V.o z y q1 n iV p (gO u jR));rw[cP j] at V;have a1:=cq l;have Z:=cq j;unfold vC at b;simp only at b;clear l j;go_upto_region 4 with(fail);refine dN S cX [⟨WV.heap.size,109,11,gq y⟩,⟨w.heap.size,118,1,λ_=>cZ G 0⟩] Be λW S=>?_;refine cJ 0 (cZ w.heap.size 0) ?_;refine cJ 1 (cZ G 0) ?_;refine cJ 3 (cZ WV.heap.size 7) ?_;refine fW 4 (.agg AQ) ae (yKn aF (o:=7) (m:=3) ae (c7 y.cz) (show 7+3<=11 by decide) (uE y) a1.o eN) ?_;refine fW 5 (.int .i64 i) ae (fR (λw h=>cu.cell (cu.fr F.o h.fr au ax) (i:=0) cw) ae BU) ?_;repeat' first|refine Rp ?_|refine mi 7 _ ?_|refine mi 8 (.agg A1) ?_|refine mi 9 (.slice ra iV.length rc) ?_|refine mi 10 (.int .i64 c) ?_|refine mi 13 _ ?_|refine mi 14 _ ?_|refine zX 2 11 (λK a=>?_) λK a=>?_|refine zX 6 11 (λK a=>?_) λK a=>?_|refine oJ 2 λK a=>?_|refine oJ 11 λK a=>?_|refine oJ 6 λK a=>?_|refine oJ 12 λK a=>?_|(go_wp2_with fail;refine lB (CP.o _ S.x.at) ?_;refine fC a ?_;clear a)|(refine fu S vV gQ ae λE8 W S=>?_;refine fC a ?_;clear a)|(go_wp2_with fail;refine ag (C.o _ S.x.at.kq S.fr) λr W⟨O,hp,L⟩=>?_;have HF:=cq (cS O);replace S:=S.sf (X':=pC G g D M z) L ar (λk hk=>.inl (by rw[eV.1 hk];simp)) (gw G g D M z) (λB h=>h.pl L (by rw[eV];exact a2.o.2.1) hp) O ae ae;obtain⟨ra,rc,rfl⟩:=HF.o;refine fC a ?_;clear a)|(refine ju S 0 ae ae ae Z.o eN (df _) λW S=>?_;refine fC a ?_;clear a)
 all_goals(
  refine cq ?_;by_cases g2:c=0
  case neg=>
   have g3:(c !=0)=true:=eO.2 g2;rw[cL g2] at b
   go_wp2_with (refine(qY c _).mono ?_;rintro e W ⟨rfl,rfl⟩;)
   go_ret;rw[b.o];exact⟨g,z,ae,ae,S.x.at,ae,id,S.fr⟩
  subst g2;rw[cM aE] at b;have E:=cq (show T=tT y.id q1 iV (g.gt z) from b.o)
  go_wp2_with first|(refine(V.o _ _ S.x.at S.q0).mono ?_;rintro e W a;have a3:=cq a;clear a;obtain⟨g3,s3,rfl,hP,hg,d,v,L⟩:=a3.o;have hF:=S.fr.step L ar (λk hk=>.inl hk);have HR:=cq (And.intro hP (And.intro hg (And.intro d v)));rw[<-E.o])|refine eR ?_
  go_ret;obtain⟨hP,hg,d,v⟩:=HR.o;rw[<-E.o] at d;exact⟨g3,s3,ae,hP,hg,d,v,hF⟩)
def J6(x:GT)(t:Pl×(cD×Int)):GT×(cD×Int):=
 if t.2.2≠0 then({x with s:=t.1},(eP,x8 t.2.2)) else({x with s:=t.1},(t.2.1,0))
def Gu(x:GT)(i:Int)(v:cR×Int):GT×(cD×Int):=
 if v.2≠0 then(x,(eP,v.2)) else J6 x (py x.s v.1.cz i)
def uJ(cC:fh)(i:Int)(x:GT):GT×(cD×Int):=if x.s.dv.cO=true then(x,(eP,42)) else Gu x i (rN x.b cC i)
def acW(h:eQ b)(cC:fh)(i:Int):tC (rN b cC i).1:=by unfold rN;simp only;split;exact nV;split;exact nV;split;exact nV;exact TQ h.ok _
def Gv(U D:Nat)(x:GT)(r:E0 x)(cC:fh)(N:cC.size<=140737488355328)(i:Int)(w:cB)(h:eK w U D x):
 CP_ 13 #[.pointer (some ⟨U,0,none⟩),.string cC,.int .i64 i] w λe w'=>∃B,e=.returned (.tuple #[.agg B,.int .i64 (uJ cC i x).2.2])/\B=ct 128 (cN (uJ cC i x).2.1)/\eK w' U D (uJ cC i x).1/\Fr (some D) [] w w':=by
 obtain⟨G,g,M,h,u,j⟩:=h;have b:=cq j;obtain⟨s,Z⟩:=c8 x.s;rw[Z] at h u;obtain rfl:=u;have S:=St.start w (some D) [] (jy U G g D M s) h.x;have E:=cq λW(X:vX W U G g D M s)=>AS U G D M g s W X;have CP:=cq λW(X:dF W G g D M s)=>nT G D M g s W X;have C2:=cq λW(X:dF W G g D M s)=>kP G D M g s r.text.fit W X;have F:=cq λ(c:dD)(B:fJ)(l:B=ct 2 (dk c))(hc:c.t=g.b.t)W(R:gV W c)=>(show CP_ 47 #[.agg B,.string cC,.int .i64 i] W λe w'=>∃B,e=.returned (.tuple #[.agg B,.int .i64 (rN g.b.t cC i).2])/\xY w' W.heap.size B (rN g.b.t cC i).1/\dz W w' from by rw[<-hc];exact F3 c B l (by rw[hc];exact r.text.fit) cC N i W R);have q:=cq λ(y:dg)(f:cY y.cz)W X=>Tk g.P D M s y.cz f i W X;have J:=cq (acW r.text cC i).2.2.1;have a:=cq (show uJ cC i (g.gt s)=if s.dv.cO=true then(g.gt s,(eP,42)) else Gu (g.gt s) i (rN g.b.t cC i) from ae);obtain⟨T,L⟩:=c8 (uJ cC i (g.gt s));obtain⟨v,C⟩:=c8 (rN g.b.t cC i);obtain⟨dd,n⟩:=c8 s.dv.cO;rw[show(g.gt s).b=g.b.t from ae,C] at J;rw[L,C,n] at a;rw[L];rw[C] at F;rw[n] at E;obtain⟨t0,V⟩:=v;unfold Gu at a;simp only at F J a;have H0:=cq h.row;clear h Z L C n r j;go_enter func13,ntmps13;cases dd with
 |true=>rw[cL ae] at a;go_wp2_with first|(go_at_call 46;refine lB (E.o _ S.x.at) ?_;)|(refine lC ?_;rw[a.o];exact⟨_,ae,ae,⟨G,g,M,S.x.at,ae,b.o⟩,S.fr⟩)|refine eR ?_|refine ey λW S=>?_
 |false=>
  rw[cM jR] at a
  go_upto_region 4 with(first|(go_at_call 46;refine lB (E.o _ S.x.at) ?_;)|((with_reducible refine aQ_ ?_);refine yi (v:=cZ G 0) (cu.cell S.x.2 (i:=0) cw) ?_)|(go_at_call 43;refine zI S (C2.o _ S.x.at.I8) λW B z HB HC _ S=>?_)|(go_at_call 47;refine(F.o z B HB.o HC.o _ ⟨S.q0,λx r=>(S.x.2 x r).1⟩).mono ?_;rintro e Q ⟨B2,rfl,⟨y,l,hy,-⟩,hb⟩;have a2:=cq l;have O:=cq hy;replace S:=S.cx hb;clear l hy)|refine ey λW S=>?_)
  by_cases g2:V=0
  case neg=>
   have g3:(V !=0)=true:=eO.2 g2;rw[cL g2] at a;clear g2
   go_wp2_with first|(refine lC ?_;rw[a.o];exact aj9)|refine eR ?_|refine ey λW S=>?_
  subst g2;rw[cM aE,<-O.o] at a;have f:cY y.cz:=by have Y:=J.o;rw[<-O.o] at Y;exact Y
  have q:=cq (q.o y f);obtain⟨t,p⟩:=c8 (py s y.cz i);rw[show y.tocR.cz=y.cz from ae,show(g.gt s).s=s from ae,p] at a;rw[p] at q;obtain⟨s1,a3,c⟩:=t;unfold J6 at a;simp only at q a;obtain⟨AQ,k⟩:=eW (ct 3 (c7 y.cz));rw[cP k] at q;have H:=cq k;clear f p k
  go_upto_region 6 with(fail)
  refine dN S cX [⟨Q.heap.size,109,11,gq y⟩] Be λW S=>?_;refine cJ 0 _ ?_;refine cJ 1 (cZ U 0) ?_;refine cJ 2 (cZ U 0) ?_;refine fW 3 (cZ G 0) ae (fR (λw h=>cu.cell (cu.fr H0.o h.fr au (.inr dU)) (i:=0) cw) ae XJ) ?_;refine cJ 5 (cZ Q.heap.size 7) ?_;refine fW 6 (.agg AQ) ae (yKn aF (o:=7) (m:=3) ae (c7 y.cz) (show 7+3<=11 by decide) (uE y) H.o eN) ?_;refine cJ 7 _ ?_
  repeat' first|refine Rp ?_|refine mi 9 _ ?_|refine mi 10 (.agg B3) ?_|refine mi 11 (.int .i64 c) ?_|refine mi 14 _ ?_|refine zX 4 12 (λK d=>?_) λK d=>?_|refine zX 8 12 (λK d=>?_) λK d=>?_|refine oJ 4 λK d=>?_|refine oJ 12 λK d=>?_|refine oJ 8 λK d=>?_|refine oJ 13 λK d=>?_|(go_wp2_with fail;refine lB (CP.o _ S.x.1.at.I8) ?_;refine fC d ?_)|(refine fu S zeroValue36 uq ae λa1 W S=>?_;refine fC d ?_)|(go_wp2_with fail;refine(q.o _ S.x.1.at.I8.kq).mono ?_;rintro e W ⟨B3,rfl,l,hp,A⟩;have I:=cq l;replace S:=(S.call (X':=λB w=>ye U G g D M s1 B w/\nE z.l B w) A ar dU ((jy U G g D M s1).still (iq z.l)) (λB h=>⟨⟨h.1.1.pl A dU hp,cu.fr h.1.2 A au (.inr dU)⟩,(iq z.l).fr h.2 A⟩));clear l;refine fC d ?_)|(refine ju S 0 ae ae ae I.o BT (iJ _) λW S=>?_;refine fC d ?_)
  all_goals(
   refine cq ?_;by_cases g2:c=0
   case neg=>
    have g3:(c !=0)=true:=eO.2 g2;rw[cL g2] at a;clear g2
    go_wp2_with first|(go_at_call 49;refine(qY c _).mono ?_;rintro e W ⟨rfl,rfl⟩;)|(refine lC ?_;rw[a.o];exact aj9)|refine eR ?_|refine ey λW S=>?_
   subst g2;rw[cM aE] at a
   go_wp2_with first|(refine lC ?_;rw[a.o];exact aj9)|refine eR ?_|refine ey λW S=>?_
   )
theorem St.afc{K:Nat}{b:Nat}(S:St w (some D) [K] [⟨b,118,n,f⟩] [] (λB w=>ye K G g D M s B w/\pC G2 g2 D M2 s B w) w1)(m:(w.heap.size<=G2/\w.heap.size<=g2.P/\w.heap.size<=M2)/\K<w.heap.size/\G<w.heap.size/\g.P<w.heap.size/\M<w.heap.size)(t:g3.P=g2.P)(j:dF w2 G2 g3 D M2 s2)(h:Fr (some D) [G2,M2,g2.P] w1 w2):
 St w (some D) [K] [⟨b,118,n,f⟩] [] (λB w=>ye K G g D M {s with dv:=s2.dv} B w/\pC G2 g3 D M2 s2 B w) w2:=by
 obtain⟨⟨v,x,y⟩,o,p,q,r⟩:=m;have a:∀k,k<w.heap.size->k∉ [G2,M2,g2.P]:=λk c u=>by grind
 have d:=dF.beside S.x.1.1.at j h (a G p) (a M r) (a _ q);have l:cu w2 b 118 n f:=cu.fr S.k0 h au ax;have i:∀k∈dM [⟨b,118,n,f⟩] [],k=b:=λk c=>by grind[dM]
 refine S.LO h ar (λk c=>?_) ((jy K G g D M _).and (gw G2 g3 D M2 s2)) ⟨⟨d.xB λk c=>?_,cu.fr S.x.1.2 h au (.inr (a K o))⟩,j.xB λk c=>?_⟩;grind;rw[i k c,cu.ty l];grind;rw[i k c,cu.ty l];grind
def ye.swap{K:Nat}(c:cu w K 101 1 f)(b:pC G2 g3 D M2 s2 B w)(j:iU K w w2)(d:cu w2 K 101 1 (λ_=>.pointer (some ⟨G2,0,none⟩))):ye K G2 g3 D M2 s2 B w2:=by have e:Fr none [K] w w2:=Fr.qt j (cu.ty c) ae (eV.2 ae);have g:G2∉ [K]:=λa=>qh (cu.ty b.1.1.2) (cu.ty c) jR (eV.1 a);have i:g3.P∉ [K]:=λa=>qh (cu.ty b.1.1.1.row) (cu.ty c) jR (eV.1 a);have h:M2∉ [K]:=λa=>qh (cu.ty b.1.1.1.map) (cu.ty c) jR (eV.1 a);exact⟨b.pl e g (ej.fr b.1.1.1 e i h),d⟩
def St.XW{K:Nat}(S:St w (some D) [K] L [] (λB w=>ye K G g D M s B w/\pC G2 g3 D M2 s2 B w) w1)(a:iU K w1 w2)(b:cu w2 K 101 1 (λ_=>.pointer (some ⟨G2,0,none⟩))):
 St w (some D) [K] L [] (ye K G2 g3 D M2 s2) w2:=
 S.wrote S.x.1.2 ae a (.inl (eV.2 ae)) (jy K G2 g3 D M2 s2) (ye.swap S.x.1.2 S.x.2 a b)
def nW(K D:Nat)(x:GT)(F:E0 x)(k:GT->GT×Int)(z:Nat)(Y:fJ)(H:∀args w,(callFunc z args).run prog w=.ok (.enter z args) w)(w:cB)(h:eK w K D x)(hc:∀G M g W,Fr (some D) [K] w W->dF W G g D M x.s->g.gt x.s=x->CP_ z (#[.agg (ct 1 λ_=>.pointer (some ⟨G,0,none⟩))]++Y) W λe V=>yb W V G D M g (k x) e):
 CP_ 50 #[.pointer (some ⟨K,0,none⟩),.func (.func z) #[] Y] w λe w'=>e=.returned (.int .i64 (dB x k).2)/\eK w' K D (dB x k).1/\Fr (some D) [K] w w':=by
 obtain⟨G,g,M,h,a,o⟩:=h;have b:=cq o;clear o;obtain⟨s,O⟩:=c8 x.s;rw[O] at h a hc;have d:g.b.t=x.b:=by rw[<-a];rfl
 have J:g.dx=x.dx:=by rw[<-a];rfl
 have S:=St.start w (some D) [K] (jy K G g D M s) h.x;have Q:=cq λW(X:vX W K G g D M s)=>AS K G D M g s W X;have R:=cq λW(X:dF W G g D M s)=>Je G D M g s (by rw[d];exact F.text.fit) (by rw[J];exact gO F.pK br) W X;have H:=cq λG2 M2 g2(A:fJ)(N:A=ct 1 λ_=>Value.pointer (some ⟨G2,0,none⟩))W d X(l:g2.gt s=g.gt s)=>(show CP_ z (#[.agg A]++Y) W λe V=>yb W V G2 D M2 g2 (k x) e from by rw[N];exact hc G2 M2 g2 W d X (l.trans a));have f:=cq (show dB x k=if s.dv.cO=true then(x,42) else uI x (k x) from by rw[<-O];rfl);obtain⟨T,Z⟩:=c8 (dB x k);obtain⟨r,u⟩:=c8 (k x);obtain⟨V,t⟩:=c8 s.dv.cO;rw[Z,u,t] at f;rw[Z];rw[u] at H;rw[t] at Q;have U:=cq O;have q:=cq a;have I:=cq h;clear h O a hc d J Z u t F;go_enter func50,ntmps50;cases V with
 |true=>rw[cL ae] at f;go_wp2_with (first|(refine(Q.o _ S.x.at).mono ?_;rintro e W ⟨rfl,rfl⟩;));go_ret;rw[f.o];exact⟨ae,⟨G,g,M,by rw[U.o];exact S.x.at,by rw[U.o];exact⟨q.o,b.o⟩⟩,S.fr⟩
 |false=>
  rw[cM br] at f;obtain⟨y,c⟩:=r;obtain rfl:=q.o;clear q U;go_upto_region 5 with(first|refine jr 16 118 5 S 0 J.o ?_|(first|refine jb 5 118 S zeroValue118 XU λW S=>?_|refine js 118 5 14 S 0 J.o (λ_=>rfl) λW S=>?_)|(refine(Q.o _ S.x.at).mono ?_;rintro e W ⟨rfl,rfl⟩;)|refine yi (cu.cell S.x.2 (i:=0) cw) ?_|(refine(R.o _ S.x.at.I8).mono ?_;rintro e W ⟨G2,g2,M2,rfl,B,E,C,l,a,d⟩;have V:=cq (And.intro (And.intro B (And.intro E C)) (And.intro (cu.lt I.o.row) (And.intro (cu.lt I.o.I8.row) (And.intro (cu.lt I.o.I8.kq.row) (cu.lt I.o.I8.kq.map)))));have m:=cq a;replace S:=(S.cx d).Wg ((jy K G g D M s).and (gw G2 g2 D M2 s)) ⟨(S.cx d).x,l.x⟩;clear B E C l a d;obtain⟨A,N⟩:=eW (ct 1 (λ_=>Value.pointer (some ⟨G2,0,none⟩)));have J:=cq N;clear N)|refine kC (cells:=A) ae (by rw[J.o];kernel_rfl) ?_|(show Calls _ _ _ _ _;refine(H.o G2 M2 g2 A J.o _ S.fr S.x.2.at m.o).mono ?_;rintro e F F;have v:=cq F;clear F;obtain⟨g3,J,rfl,H,l,n,F,I⟩:=v.o;clear v;have p:=cq n;have R:=cq F;clear F;have hS:=S.afc V.o H l I;clear S H l I n;have S:=hS;clear hS));by_cases L:c=0;case neg=>(have F:(c !=0)=true:=eO.2 L;unfold uI at f;rw[cL L] at f;clear L;go_wp2;go_ret;rw[f.o];have F:J.dv=y.s.dv:=by rw[<-p.o];rfl);have H:=S.x.1.at;rw[F] at H;exact⟨ae,⟨G,g,M,H,ae,b.o⟩,S.fr⟩
  subst L;unfold uI at f;rw[cM aE] at f;obtain rfl:=p.o;clear p;go_wp2_with (first|refine jl 23 69 22 S 0 0 (.pointer (some ⟨G2,0,none⟩)) ?_|(have F:=S.x.1.2;have l:∀j,j<1->(λ_=>Value.pointer (some ⟨G2,0,none⟩):Nat->cI) j=if j=0 then Value.pointer (some ⟨G2,0,none⟩) else(λ_=>Value.pointer (some ⟨G,0,none⟩):Nat->cI) j:=λj H=>(cL (show j=0 from Nat.lt_one_iff.1 H)).symm;refine acM F 0 cw ae ae ae XJ (λ_=>Value.pointer (some ⟨G2,0,none⟩)) l ?_;clear F l;intro F d u;replace S:=S.XW d u;clear d u));go_ret;rw[f.o];exact⟨ae,⟨G2,g3,M2,S.x.at,ae,R.o (by rw[show g2.dx=g.dx from fK GT.dx m.o];exact b.o)⟩,S.fr⟩
def Cs(st:Nat->Nat)(l:List Int):Nat->Nat:=l.foldl (λst i=>tQ st i 1 2) st
theorem TU(st:Nat->Nat){l:List Int}(a:k<l.length):Cs st (l.take (k+1))=tQ (Cs st (l.take k)) l[k] 1 2:=by grind[Cs,take_succ_eq_append_getElem]
def Z8{l:List Int}{b c:Nat}(h:dR .i64 w (.slice (some ⟨b,0,none⟩) n c) l)(f:iU M w w')(q:b≠M):dR .i64 w' (.slice (some ⟨b,0,none⟩) n c) l:=by obtain⟨g,cap,a,i,k,m⟩:=h;refine⟨g,cap,a,i,k,λd=>?_⟩;obtain⟨s,o,e,h6,p⟩:=m d;rw[e] at a;simp only[kM,xk,Addr.mk.injEq] at a;obtain⟨⟨rfl,rfl,-⟩,-,-⟩:=a;exact⟨b,0,e,oS h6 f.size,λj r=>(show w'.cell? ⟨b,0+j,none⟩=w.cell? ⟨b,0+j,none⟩ from by simp[World.cell?,f.block b h6 q]).trans (p j r)⟩
def TV(set:List (Int×Int))(v:cI)(M:Nat)(st:Nat->Nat)(w:cB)(Q:eD w v set)(g:eE w M st):
 CP_ 123 #[v,.func (.func 124) #[.pointer (some ⟨M,0,none⟩)] #[]] w λe w'=>e=.returned (.tuple #[])/\eE w' M (Cs st (ox set))/\Fr none [M] w w':=by
 have eg:∀args w,(callFunc 124 args).run prog w=.ok (.enter 124 args) w:=enters_of func124 cX ae;have U:=cq g;have E:=cq (aaS v set w Q);have R:=cq abz;have m:=cq (show∀x∈ox set,ee x from λx q=>by
  unfold ox at q;obtain⟨y,-,rfl⟩:=fM.1 q;have:=y.isLt;unfold ee;omega)
 obtain⟨l,N⟩:=c8 (ox set);rw[N] at E m|-;have A:=cq (eE.lt g);clear g Q N;go_enter func123,ntmps123;go_upto_region 1 with(go_at_call 172;refine E.o.mono ?_;rintro e W ⟨r,rfl,K,⟨b,n,c,rfl,p⟩,B⟩;have G:=cq K;have t:=cq p;have F:=cq B;clear K p);obtain⟨rfl,O⟩:n=l.length/\l.length<=9223372036854775807:=by obtain⟨V,cap,f,s,-⟩:=G.o;simp only[kM] at f;exact⟨f.2.1,s⟩
 have C:Hid (b≠M):=cq (by have f:=t.o;have s:=A.o;omega);go_loopw [9] (λi wr=>∃k:Nat,k<=l.length/\i=.int .i64 k/\Hid (eE wr M (Cs st (l.take k))/\dR .i64 wr (.slice (s_ b 0) l.length c) l/\Fr none [M] w wr)) (λi _=>l.length-(intOf i).toNat);exact⟨0,cw,ae,cq ⟨U.o.cx F.o,G.o,Fr.CU F.o _⟩⟩;obtain⟨k,L,rfl,hS⟩:=hrel;by_cases a:k<l.length
 . have d:Hid (wr.cell? ⟨b,k,none⟩=some (.int .i64 l[k])):=cq (by
    obtain⟨V,cap,f,s,J,X⟩:=hS.o.2.1;obtain⟨b',o,Y,h6,Z⟩:=X (by intro h;rw[h] at a;exact absurd a dU);rw[Y] at f;simp only[kM,xk,Addr.mk.injEq] at f;obtain⟨⟨rfl,rfl,-⟩,-,-⟩:=f;rw[<-Z k a];simp)
   have I:=cq (m.o l[k] (lU a));have H:=cq (TU st a);obtain⟨x,q⟩:=c8 (l[k]);rw[q] at d I H;clear q;have u:=cq a;go_wp2_with (first|((with_reducible refine vS 12 3 11 ?_);refine iB (by simpa using d.o) ae BU ?_)|(show Calls _ _ _ _ _;refine ah (R.o M _ x I.o _ hS.o.1) λW2⟨g,B⟩=>?_;have z:=cq g;have j:=cq B;clear g));go_roundw;exact⟨k+1,cw,by go_num,cq ⟨by rw[H.o];exact z.o,Z8 hS.o.2.1 j.o C.o,hS.o.2.2.step (Fr.qt j.o (cu.ty hS.o.1) ae (eV.2 ae)) (λD e=>by cases e) (λk L=>.inl L)⟩⟩;have:=u.o;simp[intOf];omega
 . obtain rfl:k=l.length:=cw;have T:=cq (show l.take l.length=l from oT);go_wp2;refine El (ug ae _ _ _) ae ?_;obtain⟨f,s,J⟩:=hS.o;rw[T.o] at f;exact⟨ae,f,J⟩
def fP(d:Dv):GT:=⟨⟨1,[]⟩,[],lz,⟨d,qR d.n,1,0⟩⟩
def iN(d:Dv):GT×Int:=if(d.n:Int)<64 then(fP d,191) else mA (fP d)
def L7:eQ ⟨1,[]⟩:=⟨by decide,⟨by simp,λt h=>absurd h iS⟩,λs h=>absurd h iS⟩
def acX(w:cB)(base D:Nat)(x:GT)(c:Int)(v:cI):Prop:=
 (c=0->∃G g M,v=.pointer (some ⟨G,0,none⟩)/\base<=G/\base<=g.P/\base<=M/\dF w G g D M x.s/\g.gt x.s=x/\eU g.dx)/\(c≠0->v=.pointer none/\iK w D x.s.dv)
def NJ(D:Nat)(d:Dv)(ho:d.ops<=990000000)(w:cB)(a:iK w D d):
 CP_ 93 #[.pointer (some ⟨D,0,none⟩)] w λe w'=>∃v,e=.returned (.tuple #[v,.int .i64 (iN d).2])/\acX w' w.heap.size D (iN d).1 (iN d).2 v/\Fr (some D) [] w w':=by
 have S:=St.start w (some D) [] (fG D d) a;have R:d.n<=1024:=by obtain⟨_,F,Z,pv,f⟩:=a;exact f.pK
 have A:=cq λW(X:iK W D d)=>yT D d W X;have E:=cq λW(i:w.heap.size<=W.heap.size)=>(PN (d.n:Nat) aS W).mono λe w'(l:_/\_/\_)=>(show∃k,e=.returned (cZ k 0)/\w.heap.size<=k/\eE w' k (qR d.n)/\dz W w' from⟨_,l.1,i,l.2.1,l.2.2⟩);have L:=cq λM2 W(i:w.heap.size<=W.heap.size)=>(yC D M2 1 0 W).mono λe w'(l:_/\_/\_)=>(show∃k,e=.returned (cZ k 0)/\w.heap.size<=k/\k7 w' k D M2 1 0/\dz W w' from⟨_,l.1,i,l.2.1,l.2.2⟩);have M:=cq λG m M2 W(X:dF W G ⟨m,⟨1,[],none,0⟩,[],none,0,lz⟩ D M2 (fP d).s)=>D3 G D M2 ⟨m,⟨1,[],none,0⟩,[],none,0,lz⟩ (fP d).s L7 dy dU ho W X;obtain⟨n,j⟩:=c8 d.n;have q:=cq (show iN d=if(n:Int)<64 then(fP d,191) else mA (fP d) from by rw[<-j];rfl);obtain⟨T,J⟩:=c8 (iN d);rw[J] at q|-;obtain⟨y,c⟩:=T;rw[j] at A E R;clear a J ho;go_enter func93,ntmps93;by_cases f:(n:Int)<64;case pos=>rw[cL f] at q;have O:decide ((n:Int)<64)=true:=fQ f;clear f;go_wp2_with (refine lB (A.o _ S.x) ?_;);go_ret2;obtain⟨rfl,rfl⟩:=Prod.mk.inj q.o;exact⟨_,ae,⟨λh=>absurd (show(191:Int)=0 from h) jR,λ_=>⟨ae,S.x⟩⟩,S.fr⟩
 rw[cM f] at q;have O:decide ((n:Int)<64)=false:=iC f;clear f;have C:=cq j;clear j;go_upto_region 5 with(first|refine lB (A.o _ S.x) ?_|(refine ag (E.o _ S.fr.size) λM2 W⟨t,p,i⟩=>?_;have r:=cq t;have V:=cq p;replace S:=(S.cx i).uZ p ae;clear p i t)|(refine ag (L.o M2 _ S.fr.size) λm W⟨u,p,i⟩=>?_;have s:=cq u;replace S:=(S.cx i).uZ p ae;clear p i u)|((with_reducible refine Ay 14 99 ?_);refine kC (cells:=#[.int .u64 1,.slice none 0 0]) ae cX ?_)|refine kC (cells:=ct 11 (uF ⟨m,⟨1,[],none,0⟩,[],none,0,lz⟩)) ae cX ?_|refine LU S rfl rfl rfl λG W H S=>?_|(refine(M.o G m M2 _ ⟨S.x.2,⟨S.x.1.2,S.x.1.1.1,by rw[show(fP d).s.mp=qR n from by rw[<-C.o];rfl];exact S.x.1.1.2,⟨(show(1:Nat)<18446744073709551616 by decide),(show(0:Nat)<18446744073709551616 by decide)⟩⟩,⟨cK.nil _ _ _,λx U=>absurd U iS⟩,cK.nil _ _ _⟩).mono ?_;rintro e W ⟨g2,s2,rfl,I,o,b,g,Q⟩;have F:=S.fr.step Q ar (λk K=>by simp only[ib,iS,sM] at K;rcases K with rfl|rfl|rfl;exact .inr H;exact .inr r.o;exact .inr s.o);have N:=cq I;clear I;rw[show(gX.gt ⟨m,⟨1,[],none,0⟩,[],none,0,lz⟩ (fP d).s)=fP d from ae,<-q.o] at b|-));by_cases g3:c=0;case neg=>have Y:(c !=0)=true:=eO.2 g3;have B:=cq g3;have z:=cq (And.intro o b);clear g3 o b g;go_wp2;go_ret2;exact⟨_,ae,⟨λh=>absurd h B.o,λ_=>⟨ae,by have f:=z.o.1.kq.dev;rw[show s2=y.s from by rw[<-show g2.gt s2=y from z.o.2];rfl] at f;exact f⟩⟩,F⟩
 subst g3;have z:=cq (And.intro o (And.intro b (g dy)));clear o b g;go_wp2;go_ret2;obtain⟨o,b,g⟩:=z.o;obtain rfl:g2.gt s2=y:=b;exact⟨_,ae,⟨λ_=>⟨G,g2,M2,ae,H,by rw[N.o];exact s.o,r.o,o,ae,g⟩,λh=>absurd ae h⟩,F⟩
end