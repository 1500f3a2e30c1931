/- Part 11 of 15 of the proof of WholeBytes; no conditions. -/
import Derived.Test.YtklligbjoplbgaaGreatNaj
namespace Go.Proofs.YtklligbjoplbgaaGreat
set_option linter.all false
set_option maxRecDepth 100000
set_option maxHeartbeats 64000000
open Go.RowKit Lib List Nat _root_.Go.Proofs.Tryz Go.Shelf
variable {A U:iw}{a:Act}{K R:Act->aD->Prop}{af:Array Edge}{ops:Array Oper}{b:cL}{c:bx}{Q:Exit->Act->aD->Prop}{g g':dK}{B bs l l2:aK}{X X':aK->aD->Prop}{O:List O4}{rest:List Oper}{L rs:List R4}{D G M dst i id k m n o y:Nat}{e f:Nat->bh}{d d2:Option Nat}{P:pw}{s s':Pl}{q:aq}{p:String}{t2 ty:dD}{r v:bh}{W w w' w0:aD}
def dJ (b:cL) (full:lf):cL×(List aq×Int):=
 match k8 full with
 | none=>(b,([],141))
 | some _=>match jD b.bO full with
  | none=>(b,([],172))
  | some i=>if 0< (tk b.bO (di b.bO i).id).length then(b,([],173)) else
   match cR b.bO (qu b.bO (di b.bO i).id) with
   | none=>(b,([],172))
   | some j=>match gl (ln (di b.bO j).dead (iO b.bO (di b.bO i).id)) (di b.bO i).dead with
    | none=>(b,([],131))
    | some zl=>if 4000<zl.length then(b,([],131)) else
     (⟨b.next,(b.bO.set j {di b.bO j with dead:=zl,prev:=(di b.bO i).prev}).eraseIdx i⟩,(jB (di b.bO j).dead (iO b.bO (di b.bO i).id),0))
theorem LA (l:List aq)(st:Nat): (ln l st).length<=l.length:=by grind[ln]
theorem Cq (b:bx)(A:iw)(hA:A=ah 2 (bg b))(hf:rY b.t)(full:lf)(hfu:full.size<=1000000)(w:aD)(R:dN w b):
 Calls prog 66 #[.agg A,.string full] w λe w'=>∃B r,e=.returned (.tuple #[.agg B,r,.int .i64 (dJ b.t full).2.2])/\gF w' w.heap.size B (dJ b.t full).1/\dh w' w.heap.size r (dJ b.t full).2.1/\dp w w':=by
 have HA:=ae hA;have HR:=ae R;have C1:=ae λW=>vp full hfu W;have C2:=ae λW (hb:dp w W)=>ry b A hA hf full hfu W (HR.o.below hb);have C3:=ae λid W (hb:dp w W)=>IH b.l b.sv id hf.len W (HR.o.below hb);have C4:=ae λid W (hb:dp w W)=>NR b.l b.sv id hf.len W (HR.o.below hb);have C5:=ae λid W (hb:dp w W)=>pZ b.l b.sv id hf.len W (HR.o.below hb);have C6:=ae λid W (hb:dp w W)=>x8 b.l b.sv id hf.len W (HR.o.below hb);have C9:=ae λW (hb:dp w W)=>k7 b A hA hf W (HR.o.below hb);have hd:lS b.l:=hf.2;have hlen:=hf.len;have S:=ug w;clear hA hf;obtain⟨T,hT⟩:=cM (dJ b.t full);rw[hT];unfold dJ at hT;rw[show b.t.bO=bA b.l from rfl] at hT;obtain⟨sn,hsn⟩:=cM (k8 full);obtain⟨sv,hsv⟩:=cM ((sn.getD (ov,ov)));rw[hsn,hsv] at C1;rw[hsn] at hT;clear hsn hsv;go_enter func66,ntmps66;cases sn with
 | none=>
  have e1:codeF 141 (none:Option (lf×lf))=141:=rfl;rw[e1] at C1;subst hT
  go_wp2_with (first|(go_at_call 111;refine je S (C1.o _) λW S=>?_)|(go_at_call 112;refine JZ S (C9.o _ S.b) λW B c HB HC HF S=>?_)|(refine o7 ?_;exact⟨_,_,rfl,⟨c,rfl,HC.o,S.dO HF.o⟩,dh.nil _ _,S.b⟩)|refine fN ?_|refine ew λW S=>?_)
 | some sn=>
 have e1:codeF 141 (some sn)=0:=rfl;rw[e1] at C1;simp only at hT;obtain⟨ni,hni⟩:=cM (jD (bA b.l) full);rw[show b.t.bO=bA b.l from rfl,hni] at C2;rw[hni] at hT;cases ni with
 | none=>
  subst hT;simp only[fV] at C2;clear hni
  go_wp2_with (first|(go_at_call 111;refine je S (C1.o _) λW S=>?_)|(go_at_call 113;refine je S (C2.o _ S.b) λW S=>?_)|(go_at_call 112;refine JZ S (C9.o _ S.b) λW B c HB HC HF S=>?_)|(refine o7 ?_;exact⟨_,_,rfl,⟨c,rfl,HC.o,S.dO HF.o⟩,dh.nil _ _,S.b⟩)|refine fN ?_|refine ew λW S=>?_)
 | some i=>
 simp only[fV] at C2 hT;obtain⟨x,hx⟩:=pH hni;have hil:=(sy.1 hx).1;have hil2: (i:Int)< (b.l.length:Int):=au;have hil3: ¬(i:Int)<0:=au;have hg:di (bA b.l) i=x.tocu:=fW hx;rw[hg] at hT;obtain⟨bb,oo,hbo⟩:=uE R au;have R9:=R.bO hbo;have HR9:=ae R9;have HX:=ae (R9.at hx);have HXI:=ae hx;have HBV:Hid (bg b 1=.slice (some ⟨bb,oo,none⟩) b.l.length b.cap):=ae (by rw[<-hbo];rfl);have hsv:b.sv=.slice (s_ bb oo) b.l.length b.cap:=by unfold bx.sv;rw[hbo]
 rw[hsv] at C3 C4 C5 C6;have C3:=ae (C3.o x.id);have C4:=ae (C4.o x.id);have C6:=ae (C6.o x.id);obtain⟨ch,hch⟩:=cM (tk (bA b.l) x.id);rw[hch] at C3 hT;clear hni hx hg hbo hsv hch
 go_upto_region 8 with(first|(go_at_call 111;refine je S (C1.o _) λW S=>?_)|(go_at_call 113;refine je S (C2.o _ S.b) λW S=>?_)|((with_reducible refine pP ?_);refine O9 S 1 rfl 1 (v:=.slice (s_ bb oo) b.l.length b.cap) HBV.o ?_)|refine fN ?_|refine ew λW S=>?_)
 refine bL S cm λW S=>?_;refine bp 0 40 (bZ w.heap.size 1) ?_;refine gY 1 41 (.slice (s_ bb oo) b.l.length b.cap) rfl (gE S 1 (λ_ h=>h) rfl 1 HBV.o qv rfl fB) ?_;refine bp 2 42 _ ?_;refine bp 3 43 (bZ bb (oo+i*11)) ?_;refine bp 4 44 (bZ bb (oo+i*11)) ?_;refine gY 5 45 (.int .u64 x.id) rfl (bP (λw h=>by obtain⟨_,S⟩:=h;exact(HX.o.below S.b).c0) rfl bF) ?_;refine mO 6 λK hK=>?_
 go_wp2_with fail
 refine(C3.o _ S.b).mono ?_;rintro e W ⟨r,rfl,ho,hb⟩;obtain⟨ra,rc,rfl⟩:=aH ho;replace S:=S.below hb;clear hb ho;refine gM hK ?_;clear hK K;refine bp 7 47 (.int .i64 ch.length) ?_;refine bp 8 48 (.bool (decide (0< (ch.length:Int)))) ?_;refine uy ?_;by_cases h0:0<ch.length
 . rw[bC h0] at hT;subst hT;have h1: (0:Int)< (ch.length:Int):=au
   go_wp2_with (first|(go_at_call 112;refine JZ S (C9.o _ S.b) λW B c HB HC HF S=>?_)|(refine o7 ?_;exact⟨_,_,rfl,⟨c,rfl,HC.o,S.dO HF.o⟩,dh.nil _ _,S.b⟩)|refine fN ?_|refine ew λW S=>?_)
 . rw[bX h0] at hT;have h1: ¬(0:Int)< (ch.length:Int):=au;obtain⟨nx,hnx⟩:=cM (qu (bA b.l) x.id);have C5:=ae (C5.o nx);rw[hnx] at C4 hT;obtain⟨pj,hpj⟩:=cM (cR (bA b.l) nx);rw[hpj] at C5 hT;clear hnx h0
   go_upto_region 10 with(fail)
   cases pj with
   | none=>
    subst hT;simp only[fV] at C5;clear hpj;refine bL S cm λW S=>?_;refine bp 0 51 (bZ w.heap.size 1) ?_;refine gY 1 52 (.slice (s_ bb oo) b.l.length b.cap) rfl (gE S 1 (λ_ h=>h) rfl 1 HBV.o qv rfl fB) ?_;refine bp 2 53 (bZ w.heap.size 1) ?_;refine gY 3 54 (.slice (s_ bb oo) b.l.length b.cap) rfl (gE S 1 (λ_ h=>h) rfl 1 HBV.o qv rfl fB) ?_;refine bp 4 55 _ ?_;refine bp 5 56 (bZ bb (oo+i*11)) ?_;refine bp 6 57 (bZ bb (oo+i*11)) ?_;refine gY 7 58 (.int .u64 x.id) rfl (bP (λw h=>by obtain⟨_,S⟩:=h;exact(HX.o.below S.b).c0) rfl bF) ?_;refine mO 8 λK hK=>?_
    go_wp2_with fail
    refine je S (C4.o _ S.b) λW S=>?_;refine gM hK ?_;clear hK K;refine mO 9 λK hK=>?_
    go_wp2_with fail
    refine je S (C5.o _ S.b) λW S=>?_;refine gM hK ?_;clear hK K;refine bp 10 12 _ ?_;refine uy ?_
    go_wp2_with (first
   |(go_at_call 112;refine JZ S (C9.o _ S.b) λW B c HB HC HF S=>?_)
   |(refine o7 ?_;exact⟨_,_,rfl,⟨c,rfl,HC.o,S.dO HF.o⟩,dh.nil _ _,S.b⟩)
   |refine fN ?_
   |refine ew λW S=>?_)
   | some j=>
    obtain⟨hjl,y,hy,-⟩:=fy hpj;have hgj:di (bA b.l) j=y.tocu:=fW hy;simp only[hgj,fV] at hT C5;have hjl2: (j:Int)< (b.l.length:Int):=au;have hjl3: ¬(j:Int)<0:=au;have HYI:=ae hy;have HY:=ae (R9.at hy);have hym:=nf hy;have hxm:=nf HXI.o;have hyd:=(hd.at hym).1;have hxd:=(hd.at hxm).1;obtain⟨fl,hfl⟩:=cM (iO (bA b.l) x.id);rw[hfl] at C6 hT;have C7:=ae λW (hb:dp w W)=>Iq y.dead y.dv fl W au ((HR9.o.below hb).2 y hym);have hrl:=LA y.dead fl;obtain⟨rs,hrs⟩:=cM (ln y.dead fl);obtain⟨gn,hgn⟩:=cM (jB y.dead fl);rw[hrs] at C7 hT hrl;rw[hgn] at C7 hT;have C8:=ae λv W (hb:dp w W) R1=>It rs x.dead v x.dv W au au R1 ((HR9.o.below hb).2 x hxm);obtain⟨mg,hmg⟩:=cM (gl rs x.dead);rw[hmg] at C8 hT;clear hpj hy hgj hym hxm hyd hxd hfl hrs hgn hmg hrl;refine bL S cm λW S=>?_;refine bp 0 51 (bZ w.heap.size 1) ?_;refine gY 1 52 (.slice (s_ bb oo) b.l.length b.cap) rfl (gE S 1 (λ_ h=>h) rfl 1 HBV.o qv rfl fB) ?_;refine bp 2 53 (bZ w.heap.size 1) ?_;refine gY 3 54 (.slice (s_ bb oo) b.l.length b.cap) rfl (gE S 1 (λ_ h=>h) rfl 1 HBV.o qv rfl fB) ?_;refine bp 4 55 _ ?_;refine bp 5 56 (bZ bb (oo+i*11)) ?_;refine bp 6 57 (bZ bb (oo+i*11)) ?_;refine gY 7 58 (.int .u64 x.id) rfl (bP (λw h=>by obtain⟨_,S⟩:=h;exact(HX.o.below S.b).c0) rfl bF) ?_;refine mO 8 λK hK=>?_
    go_wp2_with fail
    refine je S (C4.o _ S.b) λW S=>?_;refine gM hK ?_;clear hK K;refine mO 9 λK hK=>?_
    go_wp2_with fail
    refine je S (C5.o _ S.b) λW S=>?_;refine gM hK ?_;clear hK K;refine bp 10 12 _ ?_;refine uy ?_
    go_upto_region 13 with(fail)
    refine bf S cm [⟨w.heap.size,99,2,bg b⟩] L9 λW S=>?_;refine bp 0 66 (bZ w.heap.size 1) ?_;refine gY 1 67 (.slice (s_ bb oo) b.l.length b.cap) rfl (bP (λw h=>by rw[ag.cell (h.row 0 rfl) (i:=1) qv];exact iS some HBV.o) rfl fB) ?_;refine bp 2 68 _ ?_;refine bp 3 69 (bZ bb (oo+j*11)) ?_;refine bp 4 70 (bZ bb (oo+j*11+10)) ?_;refine gY 5 71 (y.dv) rfl (bP (λw h=>(HY.o.below h.fr.below).Zo) rfl gx) ?_;refine bp 6 72 (bZ w.heap.size 1) ?_;refine gY 7 73 (.slice (s_ bb oo) b.l.length b.cap) rfl (bP (λw h=>by rw[ag.cell (h.row 0 rfl) (i:=1) qv];exact iS some HBV.o) rfl fB) ?_;refine bp 8 74 _ ?_;refine bp 9 75 (bZ bb (oo+i*11)) ?_;refine bp 10 76 (bZ bb (oo+i*11)) ?_;refine gY 11 77 (.int .u64 x.id) rfl (bP (λw h=>(HX.o.below h.fr.below).c0) rfl bF) ?_;refine mO 12 λK hK=>?_
    go_wp2_with fail
    refine je S (C6.o _ S.b) λW S=>?_;refine gM hK ?_;clear hK K;refine mO 13 λK hK=>?_
    go_wp2_with fail
    refine(C7.o _ S.b).mono ?_;rintro e W ⟨r1,r2,rfl,ho1,ho2,hb⟩;have HR1:=ae ho1.sl;obtain⟨r1a,r1c,rfl⟩:=aH ho1;obtain⟨r2a,r2c,rfl⟩:=aH ho2;replace S:=S.cU hb ho2 rfl rfl;clear hb ho1 ho2;refine gM hK ?_;clear hK K;refine bp 14 65 _ ?_;refine bp 15 80 (.slice r1a rs.length r1c) ?_;refine bp 16 81 (.slice r2a gn.length r2c) ?_;refine bp 17 13 _ ?_;refine bp 18 14 _ ?_;refine uy ?_;cases mg with
    | none=>
     have e2:codeF 131 (none:Option (List aq))=131:=rfl;rw[e2] at C8;subst hT
     go_wp2_with (first
   |(with_reducible first|refine jo 87 107 86 ((HX.o.below S.b).Zo) ?_)
   |(go_at_call 134;refine(C8.o _ _ S.b HR1.o).mono ?_;rintro e W ⟨r,rfl,ho,hb⟩;replace S:=S.below hb;clear ho hb)
   |(go_at_call 112;refine JZ S (C9.o _ S.b) λW B c HB HC HF S=>?_)
   |(refine o7 ?_;exact⟨_,_,rfl,⟨c,rfl,HC.o,S.dO HF.o⟩,dh.nil _ _,S.b⟩)
   |refine fN ?_
   |refine ew λW S=>?_)
    | some al=>
    have e2:codeF 131 (some al)=0:=rfl;rw[e2] at C8;simp only[mb] at C8 hT;by_cases h4:4000<al.length
    . rw[bC h4] at hT;have h5: (4000:Int)< (al.length:Int):=au;subst hT
      go_wp2_with (first
   |(with_reducible first|refine jo 87 107 86 ((HX.o.below S.b).Zo) ?_)
   |(go_at_call 134;refine(C8.o _ _ S.b HR1.o).mono ?_;rintro e W ⟨r,rfl,ho,hb⟩;obtain⟨ma,mc,rfl⟩:=aH ho;replace S:=S.below hb;clear ho hb)
   |(go_at_call 112;refine JZ S (C9.o _ S.b) λW B c HB HC HF S=>?_)
   |(refine o7 ?_;exact⟨_,_,rfl,⟨c,rfl,HC.o,S.dO HF.o⟩,dh.nil _ _,S.b⟩)
   |refine fN ?_
   |refine ew λW S=>?_)
    . rw[bX h4] at hT;have h5: ¬(4000:Int)< (al.length:Int):=au;have HT:=ae hT;clear h4 hT
      go_upto_region 18 with(first
   |(with_reducible first|refine jo 87 107 86 ((HX.o.below S.b).Zo) ?_)
   |(go_at_call 134;refine(C8.o _ _ S.b HR1.o).mono ?_;rintro e W ⟨r,rfl,ho,hb⟩;obtain⟨ma,mc,rfl⟩:=aH ho;have HFy:=ae (show l5 w.heap.size ⟨{y.tocu with dead:=al,prev:=x.prev},ma,mc⟩ from λhn b hb=>kL S.fr.size ((mH.of (x:=⟨{y.tocu with dead:=al,prev:=x.prev},ma,mc⟩) ho).2 hn b hb));replace S:=S.uD (y:=⟨{y.tocu with dead:=al,prev:=x.prev},ma,mc⟩) hb ho;clear hb ho)
   |(go_at_call 112;refine(C9.o _ S.b).mono ?_;rintro e W5 ⟨B,rfl,⟨⟨cn,m,ca,cc⟩,hB,hc,ho⟩,hb⟩;obtain⟨hcn,hcs⟩:=cL.mk.inj hc;simp only at hcn hcs;subst hcn;have hml:m.length=b.l.length:=(by have h9:=iS length hcs;rwa [dC,dC] at h9);obtain⟨g,hca⟩:=oS ho (by show 0<m.length;omega);simp only at hca;subst hca;have HML:=ae hml;have HB:=ae hB;have HM:=ae hcs;have HF:=ae (S.fresh ho);replace S:=S.bB hb ho;clear hml;change St _ _ _ _ (⟨109,11,.slice (s_ g 0) m.length cc,m.length,dR m⟩::_) _ _ at S;clear hb hB hc ho hcs)
   |refine fN ?_
   |refine ew λW S=>?_)
      have hjm:j<m.length:=by have:=HML.o;omega
      have hjm2: (j:Int)< (m.length:Int):=au;obtain⟨z,hz⟩:=cM (m[j]);have hzy:z.tocu=y.tocu:=by
       have h9: (bA m)[j]? =(bA b.l)[j]?:=by rw[HM.o]
       rw[jH,jH,j4 hjm,hz,HYI.o] at h9;exact El h9
      have HZ:=ae hz;have HZY:=ae hzy;clear hz hzy;refine bf S cm [⟨W5.heap.size,99,2,bg ⟨b.next,m,s_ g 0,cc⟩⟩] L9 λW S=>?_;refine bp 0 102 (bZ W5.heap.size 1) ?_;refine bp 1 103 (.slice (s_ g 0) m.length cc) ?_;refine bp 2 104 _ ?_;refine bp 3 105 (bZ W5.heap.size 1) ?_;refine bp 4 106 (.slice (s_ g 0) m.length cc) ?_;refine bp 5 107 _ ?_;refine bp 6 108 _ ?_;refine bp 7 109 _ ?_;refine bp 8 110 (bZ bb (oo+i*11)) ?_;refine bp 9 111 (bZ bb (oo+i*11+4)) ?_;refine gY 10 112 (.int .u64 x.prev) rfl (bP (λw h=>(HX.o.below h.fr.below).c4) rfl bF) ?_;refine bp 11 113 (bZ g (j*11)) ?_;refine bp 12 114 (bZ g (j*11+10)) ?_;refine mO 13 λK hK=>?_;refine F2 S 0 rfl rfl (j*11+10) (v:=.slice ma al.length mc) (by show j*11+10<m.length*11;omega) rfl rfl rfl gx λW S=>?_;refine gM hK ?_;clear hK K;refine bp 14 115 (bZ g (j*11)) ?_;refine bp 15 116 (bZ g (j*11+4)) ?_;refine mO 16 λK hK=>?_;refine F2 S 0 rfl rfl (j*11+4) (v:=.int .u64 x.prev) (by show j*11+4<m.length*11;omega) rfl rfl rfl bF λW S=>?_;refine gM hK ?_;clear hK K;refine uy ?_;obtain⟨y1,hy1⟩: ∃y1:aZ,y1=⟨{z.tocu with dead:=al},ma,mc⟩:=⟨_,rfl⟩;obtain⟨y2,hy2⟩: ∃y2:aZ,y2=⟨{y.tocu with dead:=al,prev:=x.prev},ma,mc⟩:=⟨_,rfl⟩;have hy3:y2=⟨{z.tocu with dead:=al,prev:=x.prev},ma,mc⟩:=by rw[hy2,HZY.o]
      have hput: ((dR m).set (j*11+10) (.slice ma al.length mc)).set (j*11+4) (.int .u64 x.prev)=dR (m.set j y2):=by
       rw[pI hjm HZ.o 10 au _ y1 (λj hj=>by rw[hy1];rcases j with(_|_|_|_|_|_|_|_|_|_|_|j) <;> first | rfl | omega),
        pI (x:=y1) (by rw[En];exact hjm) (by rw[getElem_set_self]) 4 au _ y2 (λj hj=>by rw[hy1,hy3];rcases j with(_|_|_|_|_|_|_|_|_|_|_|j) <;> first | rfl),set_set]
      obtain⟨m9,hm9⟩:=cM (m.set j y2);have hl9:m.length=m9.length:=by rw[<-hm9,En]
      have hsv9:bA m9=(bA b.l).set j {y.tocu with dead:=al,prev:=x.prev}:=by
       rw[<-hm9,show bA (m.set j y2)=(bA m).set j y2.tocu by unfold bA;rw[map_set],HM.o,hy2]
      have hfr9: ∀v∈m9,l5 w.heap.size v:=λv hv=>by
       rw[<-hm9] at hv;rcases Hi hv with h | h
       . exact HF.o v h
       . rw[h,hy2];exact HFy.o
      have hdl9: ∀v∈m9,v∈m∨v=y2:=λv hv=>Hi (by rw[hm9];exact hv);rw[hm9] at hput;have HPUT:=ae hput;have HY2:=ae hy2;have HL9:=ae hl9;have HS9:=ae hsv9;have HFR:=ae hfr9;have HDL:=ae hdl9;replace S:=S.vP (X':=λB w=>Dq y2 B w/\jU m B w) (λB w h=>by rw[HY2.o];exact⟨h.1.2,h.2⟩) ((vh y2).and (dF m)).fs;simp only[E0] at S;rw[HPUT.o] at S;have w1:IntKind.i64.wrap ((i:Int)+1)=((i+1:Nat):Int):=by rw[mT _ au];omega
      have hi9:i<m.length:=by have:=HML.o;omega
      have hle: (m9.eraseIdx i).length=m.length - 1:=by rw[length_eraseIdx,bC au];omega
      have HLE:=ae hle;clear hle hput hy1 hy2 hy3 hm9 hl9 hsv9 hfr9 hdl9
      go_wp2_with (first|(with_reducible first|refine jl 118 97 117 S 0 1 (.slice (s_ g 0) m.length cc) ?_)|(go_at_call 129;refine(xj m9 g cc m.length i (i+1) w.heap.size HL9.o.symm hi9 rfl _ S.o0).mono ?_;rintro e W6 ⟨rfl,ho,hb⟩;replace S:=S.erased (j:=0) rfl ho hb;clear ho hb)|((with_reducible refine aS 97 123 122 ?_);refine gu S 0 rfl 1 (bg ⟨b.next,m9.eraseIdx i,s_ g 0,cc⟩) (λj hj=>by have hj:j<2:=hj;rcases j with(_|_|j);rfl;show Value.slice _ (m9.eraseIdx i).length _=_;rw[HLE.o];rfl;omega) qv rfl rfl rfl fB λW S=>?_;obtain⟨G,hG⟩:=gq (ah 2 (bg ⟨b.next,m9.eraseIdx i,s_ g 0,cc⟩));have HG:=ae hG;clear hG)|(refine o7 ?_;rw[<-HT.o];exact⟨_,_,rfl,⟨⟨b.next,m9.eraseIdx i,s_ g 0,cc⟩,rfl,by unfold bx.t;rw[J0,HS9.o],⟨by have h9:=S.o0;unfold bx.sv;rw[HLE.o];exact h9,λv hv=>⟨by rcases HDL.o v (X2 hv) with h | h;exact(S.x.2 v h).1;rw[h];exact S.x.1.1,HFR.o v (X2 hv)⟩⟩⟩,S.o1,S.b⟩)|refine fN ?_|refine ew λW S=>?_)
section
theorem gX.obj {t b:Nat}(h:gX d X)(ho:df t=true):gX d (λB w=>X B w/\ag w b t n f):=
 ⟨λa hb=>⟨h.below a.1 hb,ag.below a.2 hb⟩,λa hb=>⟨h.add a.1 hb,a.2⟩,λa hs=>⟨h.mono a.1 hs,a.2⟩,
  λa hm hb ht hn hd=>⟨h.but a.1 hm hb ht hn hd,ag.but a.2 hb λe=>by rw[<-e,ag.ty a.2] at ht;grind⟩,λa e=>h.dev a.1 e⟩
theorem St.sq (S:St w0 d l L O X w){t b:Nat}(hr:ag w b t n f)(ho:df t=true):St w0 d l L O (λB w=>X B w/\ag w b t n f) w:=
 ⟨S.fr,S.row,S.own,S.lo,S.nd,⟨S.x,hr⟩,S.fs.obj ho⟩
theorem St.Bt (h:St w0 d l L O X w)(f:Fr d2 l2 w w')(hd: ∀D,d2=some D->d=some D)(hl: ∀k∈l2,k∈l∨w0.heap.size<=k)(hs:gX d X')(hx:X' (bE L O) w'):St w0 d l L O X' w':=by
 refine⟨h.fr.step f hd hl,λr hr=>?_,λo ho=>?_,h.lo,h.nd,hx,hs⟩
 . have hR:=h.row r hr;cases e2:d2 with
   | none=>
    subst e2;exact⟨ag.fr hR.1 f (.inl rfl) (.inl hR.2.1),hR.2.1,hR.2.2.imp id λg D e=>FI (g D e) f (h.O2 D e)⟩
   | some D=>
    subst e2;rcases hR.2.2 with h1 | h1
    . grind[ag.fr]
    . exact⟨ag.frX hR.1 f (h1 D (hd D rfl)) (.inl hR.2.1),hR.2.1,.inr λD' e=>by
       rcases El (e.symm.trans (hd D rfl)) with rfl
       grind[Fr.VI,ag.lt]⟩
 . have hO:=h.own o ho
   grind[rI]
theorem St.wrote (h:St w0 d l L O X w){t:Nat}(hR:ag w G t n f)(ho:df t=true)(hb:ek G w w')(hl:G∈l∨w0.heap.size<=G)(hs:gX d X')(hx:X' (bE L O) w'):St w0 d l L O X' w':=
 h.Bt (d2:=none) (l2:=[G]) (Fr.me hb (ag.ty hR) ho (gz.2 rfl)) (λD e=>by cases e) (λk hk=>by grind) hs hx
end
section
variable {x:Nat}
theorem Xg {t:Nat}(hR:ag w G t n f)(i:Nat){q:Operand}(hi:i<n)(hx:a.eval (.tmp x)=.pointer (some ⟨G,i,none⟩))(hy:a.eval q=v)(hv:v.oneCell'=true)(ht:fZ P ty)(g:Nat->bh)(hg: ∀j,j<n->g j=if j=i then v else f j)(h: ∀W,ek G w W->ag W G t n g->wpList P ops Q rest (a.put none undef) W):wpList P ops Q (⟨none,.store ty (.tmp x) q,t2,p,af,none⟩::rest) a w:=
 u' (iz hR au) hx hy hv ht (h _ (kA _ _ _ _) ((ag.set hR i v).congr λj hj=>(hg j hj).symm))
theorem aal {t:Nat}(hR:ag w G t n f)(o:Nat)(hm:o+m<=n)(hx:a.eval (.tmp x)=.pointer (some ⟨G,o,none⟩))(hy:a.eval (.tmp y)=.agg A)(hA:A=ah m e)(ht:fu P ty m)(h1: ∀i,(e i).oneCell'=true)(g:Nat->bh)(hg: ∀j,j<n->g j=if o<=j/\j<o+m then e (j - o) else f j)(h: ∀W,ek G w W->ag W G t n g->wpList P ops Q rest (a.put none undef) W):wpList P ops Q (⟨none,.store ty (.tmp x) (.tmp y),t2,p,af,none⟩::rest) a w:=by
 subst hA;refine wpList_store_mid (op:=⟨none,.store ty (.tmp x) (.tmp y),t2,p,af,none⟩) rfl ty (.tmp x) (.tmp y) rfl G o (ah m e) hx hy (by grind[aj,iz]) (by rw[aj];exact ht.2) (iv e h1) (h _ (ek.setCells _ _ _ _) ?_);refine ag.congr (ag.setCells _ o hR) λj hj=>?_;rw[hg j hj];unfold D6;rw[p9,aj];by_cases hc:o<=j/\j<o+m
 . rw[bC hc,bC hc];show(ah m e).toList.getD (j - o) _=e (j - o);rw[DZ,qx,aF,bC au];rfl
 grind
end
def kM (G:Nat) (g:dK) (D M:Nat) (s:Pl):aK->aD->Prop:=λB w=>((Ae g.P D M s B w/\ag w G 145 11 (p5 g))/\rW g.b.sv g.b.l B w)/\qC 106 3 g.hv g.held.length (eo g.held) B w
theorem c8 (G:Nat)(g:dK)(D M:Nat)(s:Pl):gX (some D) (kM G g D M s):=
 (((bu g.P D M s).obj (t:=145) (n:=11) (b:=G) (f:=p5 g) rfl).still (fx g.b.sv g.b.l)).still (cz 106 3 g.hv _ _ rfl rfl)
theorem kM.at (h:kM G g D M s B w):bw w G g D M s:=⟨h.1.1.2,h.1.1.1,h.1.2.sl,h.2.1⟩
theorem bw.x (h:bw w G g D M s):kM G g D M s [] w:=⟨⟨⟨h.ft,h.row⟩,cQ.x h.book⟩,⟨h.held,λ_ _ _=>by simp⟩⟩
def SEG (w0:aD) (d:Option Nat) (l:aK) (rs:List R4) (G:Nat) (g:dK):aD->Prop:=λW=>∃L O X,St w0 d l L O X W/\(∀r∈rs,r∈L)/\ag W G 145 11 (p5 g)
theorem SEG.row (h:SEG w0 d l rs G g W)(k:Nat){r:R4}(hk:rs[k]? =some r):ag W r.b r.t r.n r.f:=by
 obtain⟨L,O,X,S,hr,_⟩:=h;exact(S.row r (hr r (nf hk))).1
theorem SEG.A7 (h:SEG w0 d l rs G g W):ag W G 145 11 (p5 g):=by
 obtain⟨L,O,X,S,_,hr⟩:=h;exact hr
theorem SEG.cell {w0 W:aD} {d:Option Nat} {l:aK} {rs:List R4} {G:Nat} {g:dK} (h:SEG w0 d l rs G g W) (i:Nat) (hi:i<11):W.cell? ⟨G,i,none⟩=some (p5 g i):=ag.cell h.A7 hi
theorem St.Xh (S:St w0 d l L (⟨109,11,c.sv,c.l.length,dR c.l⟩::O) (λB w=>X B w/\jU c.l B w) w)(hF: ∀x∈c.l,l5 w0.heap.size x):oQ w w0.heap.size c:=
 ⟨S.o0,λx hx=>⟨(S.x.2 x hx).1,hF x hx⟩⟩
theorem Gu (S:St w0 d l L O X w)(hm:P.follows .mixedOrders=true)(rs:List R4)(hr: ∀r∈rs,r∈L)(hg:ag w G 145 11 (p5 g))(h: ∀W,St w0 d l L O X W->wpAnyH P .any ops Q (SEG w0 d l rs G g) ops.size (Array.replicate ops.size false) a W): (Code.region id ops true).wp P Q a w:=
 wp_region_held_drew hm ⟨L,O,X,S.drew,hr,hg.below ((iU _ _).drew)⟩ λ_=>h _ S.drew
theorem Up (g:dK)(c:bx): ∀j,j<11->p5 {g with b:=c} j=if 1<=j/\j<1+2 then bg c (j - 1) else p5 g j:=by
 intro j hj;unfold p5;rcases j with(_|_|_|_|j) <;> first | rfl
theorem nT (G D M:Nat)(g:dK)(s:Pl)(b:bx)(A:iw)(hA:A=ah 2 (bg b))(hf:rY b.t)(w:aD)(h:bw w G g D M s)(R:dN w b):
 Calls prog 55 #[.pointer (some ⟨G,0,none⟩),.agg A] w λe w'=>∃c:bx,e=.returned (.tuple #[])/\c.t=b.t/\bw w' G {g with b:=c} D M s/\oQ w' w.heap.size c/\Fr none [G] w w':=by
 have HA:=ae hA;have HG:=ae h;have C1:=ae λW (f:Fr none [G] w W)=>tL b A hA hf W (show cQ W b.sv b.l from(show cQ w b.sv b.l from R).fr f);have S:=St.start w none [G] (dz.obj (t:=145) (n:=11) (b:=G) (f:=p5 g) rfl) ⟨kO,h.row⟩;clear h hA hf R;go_enter func55,ntmps55
 go_wp2_with (first|(go_at_call 102;refine JZ S (C1.o _ S.fr) λW B c HB HC HF S=>?_)|((with_reducible refine aS 99 8 6 ?_);refine aal S.x.1.2 1 (m:=2) au rfl rfl HB.o fe (aT _) (p5 {g with b:=c}) (Up g c) ?_;intro W9 hb hr;replace S:=S.wrote (X':=λB w=>(True/\ag w G 145 11 (p5 {g with b:=c}))/\jU c.l B w) S.x.1.2 rfl hb (.inl (gz.2 rfl)) (((dz.obj (t:=145) (n:=11) (b:=G) (f:=p5 {g with b:=c}) rfl).still (dF c.l))) ⟨⟨kO,hr⟩,(dF c.l).fr S.x.2 (Fr.me hb (ag.ty S.x.1.2) rfl (gz.2 rfl))⟩;clear hr)|refine fN ?_|refine ew λW S=>?_)
 refine Pf (Jv rfl _ _ _) rfl ?_;have hf:=S.fr;have hP:g.P∉ [G]:=λhm=>lT (ag.ty HG.o.ft.row) (ag.ty HG.o.row) nh (gz.1 hm);have hM:M∉ [G]:=λhm=>lT (ag.ty HG.o.ft.map) (ag.ty HG.o.row) nh (gz.1 hm);have hO:=S.Xh HF.o;exact⟨c,rfl,HC.o,⟨S.x.1.2,HG.o.ft.fr hf hP hM,hO.sl,(show ar w 106 3 g.hv g.held.length (eo g.held) from HG.o.held).fr hf (.inl rfl) rfl⟩,hO,hf⟩
structure GT where
 b:cL
 held:List aq
 ub:nu
 s:Pl
def dK.gt (g:dK) (s:Pl):GT:=⟨g.b.t,g.held,g.ub,s⟩
def Gv (x:GT) (m:Pl×(aq×(List aq×Int))):nu:=⟨jW x.ub.lJ,m.1.ay,m.2.1,40,m.1.dv.n⟩
def uJ (x:GT) (m:Pl×(aq×(List aq×Int))):GT×Int:=
 if m.2.2.2≠0 then({x with s:=m.1},m.2.2.2) else
 if(dr m.1.dv (Gv x m)).2≠0 then({x with s:={m.1 with dv:=(dr m.1.dv (Gv x m)).1}},(dr m.1.dv (Gv x m)).2)
 else({x with held:=m.2.2.1,ub:=Gv x m,s:=rM {m.1 with dv:=(dr m.1.dv (Gv x m)).1}},0)
def nF (x:GT):GT×Int:=uJ x (gW x.s x.b x.held)
def sd (w w':aD) (G D M:Nat) (g:dK) (r:GT×Int) (e:Ending):Prop:=
 ∃g2 s2,e=.returned (.int .i64 r.2)/\g2.P=g.P/\bw w' G g2 D M s2/\g2.gt s2=r.1/\(cx g.held->cx g2.held)/\Fr (some D) [G,M,g.P] w w'
theorem kM.pl (h:kM G g D M s B w)(f:Fr d l w w')(hG:G∉l)(hp:bH w' g.P D M s'):kM G g D M s' B w':=
 ⟨⟨⟨hp,ag.fr h.1.1.2 f (.inr rfl) (.inr hG)⟩,(fx g.b.sv g.b.l).fr h.1.2 f⟩,(cz 106 3 g.hv _ _ rfl rfl).fr h.2 f⟩
theorem kM.IY (h:kM G g D M s B w):G≠g.P/\G≠M/\g.P≠M:=
 ⟨lT (ag.ty h.1.1.2) (ag.ty h.1.1.1.row) nh,lT (ag.ty h.1.1.2) (ag.ty h.1.1.1.map) nh,lT (ag.ty h.1.1.1.row) (ag.ty h.1.1.1.map) nh⟩
section
theorem St.Zt (S:St w0 (some D) l L O (kM G g D M s) w)(f:Fr d2 l2 w w')(hd: ∀D',d2=some D'->some D=some D')(hl: ∀k∈l2,k∈l∨w0.heap.size<=k)(hG:G∉l2)(hp:bH w' g.P D M s'):St w0 (some D) l L O (kM G g D M s') w':=
 S.call f hd hl (c8 G g D M s') λB hx=>hx.pl f hG hp
theorem St.QT (S:St w0 (some D) l L O (kM G g D M s) w)(h:bw w' G {g with b:=c} D M s)(o:oQ w' w.heap.size c)(f:Fr none [G] w w')(hl:G∈l∨w0.heap.size<=G):St w0 (some D) l L O (kM G {g with b:=c} D M s) w':=by
 refine S.Bt (d2:=none) (l2:=[G]) f (λD e=>by cases e) (λk hk=>by grind) (c8 G _ D M s) ⟨⟨⟨h.ft,h.row⟩,⟨⟨h.book.1,λhn b hb hm=>?_⟩,λx hx=>⟨(o.2 x hx).1,λhn b hb hm=>?_⟩⟩⟩,(cz 106 3 g.hv _ _ rfl rfl).fr S.x.2 f⟩
 . have h1:=(o.1.lt b hb).1;have h2:=S.lt b hm;omega
 . have h1:=(o.2 x hx).2 hn b hb;have h2:=S.lt b hm;omega
end
def Gw (G:Nat) (g:dK) (D M:Nat) (s:Pl):aK->aD->Prop:=λB w=>(Ae g.P D M s B w/\ag w G 145 11 (p5 g))/\rW g.b.sv g.b.l B w
theorem Gx (G:Nat)(g:dK)(D M:Nat)(s:Pl):gX (some D) (Gw G g D M s):=
 ((bu g.P D M s).obj (t:=145) (n:=11) (b:=G) (f:=p5 g) rfl).still (fx g.b.sv g.b.l)
theorem Gw.IY (h:Gw G g D M s B w):G≠g.P/\G≠M/\g.P≠M:=
 ⟨lT (ag.ty h.1.2) (ag.ty h.1.1.row) nh,lT (ag.ty h.1.2) (ag.ty h.1.1.map) nh,lT (ag.ty h.1.1.row) (ag.ty h.1.1.map) nh⟩
section
variable {x:Nat}
theorem St.Xi (S:St w0 (some D) l L O (Gw G g D M s) w)(hl:G∈l∨w0.heap.size<=G)(hb:ek G w w')(hP:g'.P=g.P)(hB:g'.b=g.b)(hr:ag w' G 145 11 (p5 g')):St w0 (some D) l L O (Gw G g' D M s) w':=by
 have hf:Fr none [G] w w':=Fr.me hb (ag.ty S.x.1.2) rfl (gz.2 rfl);have hn:=S.x.IY;refine S.wrote S.x.1.2 rfl hb hl (Gx G g' D M s) ⟨⟨?_,hr⟩,?_⟩
 . show bH w' g'.P D M s;rw[hP];exact bH.fr S.x.1.1 hf (λh=>hn.1 (gz.1 h).symm) (λh=>hn.2.1 (gz.1 h).symm)
 . rw[hB];exact(fx _ _).fr S.x.2 hf
theorem aan (S:St w0 (some D) l L O (Gw G g D M s) w)(hl:G∈l∨w0.heap.size<=G)(hs:List aq)(ho:Option Addr)(hc:Nat){q:Operand}(hx:a.eval (.tmp x)=.pointer (some ⟨G,3,none⟩))(hy:a.eval q=.slice ho hs.length hc)(ht:fZ P ty)(h: ∀W,St w0 (some D) l L O (Gw G {g with held:=hs,ho:=ho,hc:=hc} D M s) W->K (a.put none undef) W):Oper.wp P ⟨none,.store ty (.tmp x) q,t2,p,af,none⟩ a w K Q:=by
 refine RU (iz S.x.1.2 (n:=1) au) hx hy rfl ht (h _ ?_);refine S.Xi hl (kA _ _ _ _) rfl rfl ((ag.set S.x.1.2 3 _).congr λj hj=>?_);unfold p5;rcases j with(_|_|_|_|j) <;> first | rfl
theorem acq (S:St w0 (some D) l L O (Gw G g D M s) w)(hl:G∈l∨w0.heap.size<=G)(u:nu)(hx:a.eval (.tmp x)=.pointer (some ⟨G,4,none⟩))(hy:a.eval (.tmp y)=.agg U)(hU:U=ah 7 (gg u))(ht:fu P ty 7)(h: ∀W,St w0 (some D) l L O (Gw G {g with ub:=u} D M s) W->K (a.put none undef) W):Oper.wp P ⟨none,.store ty (.tmp x) (.tmp y),t2,p,af,none⟩ a w K Q:=by
 subst hU;refine wp_store_mid (op:=⟨none,.store ty (.tmp x) (.tmp y),t2,p,af,none⟩) ty (.tmp x) (.tmp y) rfl G 4 (ah 7 (gg u)) hx hy (by rw[aj];exact iz S.x.1.2 au) (by rw[aj];exact ht.2) (iv _ (jK u)) (h _ ?_);refine S.Xi hl (ek.setCells _ _ _ _) rfl rfl (ag.congr (ag.setCells _ 4 S.x.1.2) λj hj=>?_);unfold D6;rw[p9,aj];by_cases hc:4<=j/\j<4+7
 . rw[bC hc];refine(show(ah 7 (gg u)).toList.getD (j - 4) _=gg u (j - 4) from by
    rw[DZ,qx,aF,bC au];rfl).trans ?_
   unfold p5
   grind
 . rw[bX hc];unfold p5;split
   . rfl
   split
   . rfl
   split
   . rfl
   . omega
end
theorem Uq (d:Dv): (cS d).ops<=d.ops+1:=by
 unfold cS;grind
theorem QU (d:Dv) (i:Int): (eL d i).1.ops<=d.ops+1:=Uq d
theorem Og (s:Pl)(q:aq)(i:Int): (pW s q i).1.dv.ops<=s.dv.ops+3:=by
 unfold pW;have h1:=oG s q i.toNat;split
 . grind
 grind[Ad]
theorem Oh (s:Pl)(q:aq)(i:Int)(b:aK): (kW s q i b).1.dv.ops<=s.dv.ops+5:=by
 unfold kW;have h1:=oG s q i.toNat;have h2:=Ce (cg s q i.toNat).1 b;have h3:=iW (pN (cg s q i.toNat).1 b).1;simp only;split
 . grind
 split
 . grind
 grind[iW]
theorem QV (s:Pl) (y:Way) (q:aq) (i:Nat): (nP s y q i).1.dv.ops<=s.dv.ops+2:=by
 unfold nP;simp only;generalize hk: (if oI (gr y.second (i % 8) hole)=true then(if oI (gr y.first (i / 8) hole)=true then 0 else 1) else 2)=k;split
 . grind
 have h1: ∀n2 (k:Nat),(if k=2 then dg s n2 else(s,(hole,0))).1.dv.ops<=s.dv.ops+1:=by
  intro n2 k;have:=iW s n2
  grind
 grind[iW]
theorem LB (s:Pl)(q:aq)(i:Int): (iM s q i).1.dv.ops<=s.dv.ops+4:=by
 unfold iM;have h1:=oG s q i.toNat;simp only;split
 . grind
 grind[QV]
theorem Oi (ay:Nat) (x:Pl×(List aq×Int)) (q:aq): (iX ay x q).1.dv.ops<=x.1.dv.ops+1:=by
 unfold iX;have h:=pX x.1 q
 grind
theorem Oj (s:Pl)(q:aq)(st:Nat): (iK s q st).1.dv.ops<=s.dv.ops+9:=by
 unfold iK;have h:=pX s q;split
 . grind
 grind[uH,Oi,kH,yL]
theorem LC (x:Pl×(aK×Int)) (q:aq): (gy x q).1.dv.ops<=x.1.dv.ops+1:=by
 unfold gy;have h:=Ad x.1 q
 grind
theorem IZ (want:Nat)(x:Pl×(List aq×Int))(q:aq): (dj want x q).1.dv.ops<=x.1.dv.ops+1:=by
 unfold dj;have h:=pX x.1 q
 grind
theorem I0 (s:Pl)(l:List aq)(want:Nat): (cT s l want).1.dv.ops<=s.dv.ops+l.length:=uH (IZ want) l _
theorem LD (s:Pl) (l:List aq) (n:Nat): (bW s l n).1.dv.ops<=s.dv.ops+l.length:=by
 grind[nE,uH,LC,bW]
theorem LF (want:Nat) (x:Pl×(List aq×Int)) (q:aq) (hx:x.2.1.length<=want): (dj want x q).2.1.length<=want:=by
 unfold dj
 grind
theorem LG (s:Pl)(l:List aq)(want:Nat): (cT s l want).2.1.length<=want:=by
 unfold cT;suffices ∀(l:List aq) (x:Pl×(List aq×Int)),x.2.1.length<=want->(l.foldl (dj want) x).2.1.length<=want from this l _ (kf _)
 intro l
 induction l<;>grind[LF]
theorem LH (x:Pl×(List aq×List aq×Int))(want:Nat)(hx:x.2.1.length<=512)(hw:want<=512): (ec x want).1.dv.ops<=x.1.dv.ops+512/\(ec x want).2.1.length<=512:=by
 unfold ec;have h:=I0 x.1 x.2.1 want;have h2:=LG x.1 x.2.1 want
 grind
theorem Bu: ∀(ws:aK) (x:Pl×(List aq×List aq×Int)),x.2.1.length<=512->(∀w∈ws,w<=512)->(ws.foldl ec x).1.dv.ops<=x.1.dv.ops+512*ws.length/\(ws.foldl ec x).2.1.length<=512
 | [],x,hx,_=>⟨Eo _ _,hx⟩
 | a::ws,x,hx,hw=>by
  have h1:=LH x a hx (hw a D0);have h2:=Bu ws (ec x a) h1.2 λb hb=>hw b (yz _ hb);rw[Hz,o8];exact⟨au,h2.2⟩
theorem q6 (s:Pl) (root:aq) (n:Int): (bQ s root n).1.dv.ops<=s.dv.ops+6200:=by
 unfold bQ;have hd: (lr n).length<=11:=by
  grind[r7,lr]
 have h1:=Bu (lr n) (s,([root],[root],0)) fh λw hw=>uF n w (by
  grind[lr,dropLast_subset])
 simp only at h1;simp only;split
 . grind
 grind[LD]
theorem YS (b1:Pl×(aK×(List aq×Int))) (q p2:aq) (n2:Nat): (mw5 b1 q p2 n2).1.dv.ops<=b1.1.dv.ops+6200:=by
 unfold mw5;have h:=q6 b1.1 p2 (n2:Nat)
 grind
theorem YT (a:Pl×(aq×Int)) (p1:aq) (n1:Nat) (p2:aq) (n2:Nat): (mw4 a p1 n1 p2 n2).1.dv.ops<=a.1.dv.ops+12400:=by
 unfold mw4;have h:=q6 a.1 p1 (n1:Nat);split
 . grind
 grind[YS]
theorem YU (a:Pl×(aq×Int)) (p1:aq) (n1 n2 bI:Nat): (mw3 a p1 n1 n2 bI).1.dv.ops<=a.1.dv.ops+12401:=by
 unfold mw3;split
 . grind
 split
 . grind
 grind[oh,YT]
theorem YV (a:Pl×(aq×Int)) (n1:Nat) (bI:aK): (mw2 a n1 bI).1.dv.ops<=a.1.dv.ops+14401:=by
 unfold mw2;split
 . grind
 split
 . grind
 grind[qZ,YU]
theorem I1 (s:Pl) (text bI:aK): (j3 s text bI).1.dv.ops<=s.dv.ops+16401:=by
 grind[j3,qZ,YV]
theorem Bv (s:Pl)(b:cL)(old:List aq): (gW s b old).1.dv.ops<=s.dv.ops+16401:=by
 unfold gW;have hd:=iS Dv.ops (uI old s);split
 . grind
 grind[I1]
theorem Gy (d:Dv)(u:nu): (dr d u).1.ops<=d.ops+3:=by
 unfold dr;split
 . grind
 grind[Ag,s6]
theorem y6 (s:Pl)(b:cL)(old:List aq): (gW s b old).2.2.1.length<=20000:=by
 unfold gW;split
 . grind
 . split
   . grind
   . unfold j3 mw2;split
     . grind
     split
     . grind
     . unfold mw3;split
       . grind
       split
       . grind
       . unfold mw4;split
         . grind
         . unfold mw5;split
           . grind
           split
           . grind
           . simp only[kh,o8,we];have h1:=mL
             grind
theorem abw (u:nu):ah 7 (gg u)=#[.int .u64 u.lJ,.int .u64 u.ay,.int .i64 u.table.1,.int .u64 u.table.2.1,.int .u32 u.table.2.2,.int .i64 u.len,.int .i64 u.fH]:=rfl
theorem y7 (G D M:Nat)(g:dK)(s:Pl)(ht:ct g.b.t)(hp:cx g.held)(hl:g.held.length<=100000)(ho:s.dv.ops<=990000000)(w:aD)(h:bw w G g D M s):
 Calls prog 122 #[.pointer (some ⟨G,0,none⟩)] w λe w'=>sd w w' G D M g (nF (g.gt s)) e:=by
 obtain⟨B,hB⟩:=gq (ah 2 (bg g.b));have HB:=ae hB;have hn:=kM.IY h.x;have S:=St.start w (some D) [G,M,g.P] (c8 G g D M s) h.x;have C1:=ae λW (X:bw W G g D M s)=>Lu g.P D M s ho g.b B hB ht g.held hp hl g.hv W X.ft X.book X.held;have hops:=Bv s g.b.t g.held;have hml:=y6 s g.b.t g.held;have HG:=ae (show nF (g.gt s)=uJ (g.gt s) (gW s g.b.t g.held) from rfl);obtain⟨m,hm⟩:=cM (gW s g.b.t g.held);rw[hm] at C1 HG hops hml;have hop1:m.1.dv.ops<=999000000:=au;have HOP:=ae hop1;have HML:=ae hml;obtain⟨s1,q,hs1,c⟩:=m;simp only at C1 HOP HML;clear h hB ht hp hl ho hops hm hml hop1;unfold dK.hv at C1;go_enter func122,ntmps122
 go_upto_region 1 with(fail)
 refine Gu S cm [] (by intro r hr;cases hr) (S.x.1.1.2) λW S=>?_;refine bp 0 10 _ ?_;refine bp 1 11 (bZ G 0) ?_;refine bp 2 12 (bZ G 0) ?_;refine gY 3 13 (bZ g.P 0) rfl (bP (λw h=>h.cell 0 au) rfl sF) ?_;refine bp 4 14 _ ?_;refine bp 5 15 (bZ G 0) ?_;refine bp 6 16 (bZ G 1) ?_;refine gY 7 17 (.agg B) rfl (Wz (λw h=>h.A7) (o:=1) (m:=2) rfl (bg g.b) au (λi hi=>by rcases i with(_|_|i) <;> first | rfl | omega) HB.o fe) ?_;refine bp 8 18 _ ?_;refine bp 9 19 (bZ G 0) ?_;refine bp 10 20 (bZ G 3) ?_;refine gY 11 21 (.slice g.ho g.held.length g.hc) rfl (bP (λw h=>h.cell 3 au) rfl gx) ?_
 repeat' first|refine Zf ?_|refine qK 13 9 _ ?_|refine qK 14 23 (.agg A) ?_|refine qK 15 24 (.slice ha hs1.length hc) ?_|refine qK 16 25 (.int .i64 c) ?_|refine qK 19 4 _ ?_|refine qK 20 5 _ ?_|refine JV 12 17 (λK hK=>?_) λK hK=>?_|refine tF 12 λK hK=>?_|refine tF 18 λK hK=>?_|refine tF 17 λK hK=>?_|(refine bG S D8 bz rfl λE6 W S=>?_;refine gM hK ?_)|(go_wp2_with fail;refine(C1.o _ S.x.at).mono ?_;rintro e W ⟨A,r,rfl,hA,hpp,ho,hpl,hp,hf⟩;have HA:=ae hA;have HPP:=ae hpp;have HPL:=ae hpl;have HF:=ae (aH ho);have hX:=λB (hx:kM G g D M s B _)=>hx.pl hf (by rw[gz];exact hn.2.1) hp;replace S:=S.pO hf (λD e=>e) (by intro k hk;rw[gz.1 hk];exact .inl fh) (c8 G g D M s1) hX ho rfl rfl;clear hA hpp ho hpl hp hX;obtain⟨ha,hc,rfl⟩:=HF.o;refine gM hK ?_)|(refine dL S 0 rfl rfl rfl HA.o bd (aE _) λW S=>?_;refine gM hK ?_)
 all_goals (
  refine ae ?_;by_cases g2:c=0
  case neg=>
   have g3: (c != 0)=true:=lh.2 g2;have HR:=ae (show nF (g.gt s)=({g.gt s with s:=s1},c) from by rw[HG.o];unfold uJ;rw[bC g2]);clear g2;go_wp2;go_ret;rw[HR.o];exact⟨g,s1,rfl,rfl,S.x.at,rfl,id,S.fr⟩
  subst g2;obtain⟨x,hx⟩:=cM (g.gt s);obtain⟨n1,hn1⟩:=cM (jW g.ub.lJ);have w1:IntKind.u64.wrap ((g.ub.lJ:Int)+1)=((n1:Nat):Int):=by rw[<-hn1];exact pV _
  obtain⟨st1,hst1⟩:=cM s1.ay;obtain⟨nn,hnn⟩:=cM s1.dv.n;obtain⟨u,hu⟩: ∃u:nu,u=⟨n1,st1,q,40,nn⟩:=⟨_,rfl⟩;have hue:Gv x (s1,q,hs1,0)=u:=by rw[hu,<-hn1,<-hst1,<-hnn,<-hx];rfl
  have hup:kp u:=by
   rw[hu];have h1:=S.x.1.1.1.ok.1;have h2:=bH.mZ S.x.1.1.1;rw[hst1] at h1;rw[hnn] at h2;exact⟨by rw[<-hn1];exact wT _,h1,HPP.o,(show(40:Nat)<4294967296 by decide),by show nn<4294967296;omega⟩
  obtain⟨U,hU⟩:=gq (ah 7 (gg u));have C2:=ae λW (X:bw W G g D M s1)=>iJ g.P D M s1.ay s1.base W X.ft.row;have C3:=ae λW (X:bw W G g D M s1)=>pU g.P D M s1.ay s1.base W X.ft.row;have C4:=ae λW (X:bw W G g D M s1)=>uw D s1.dv W X.ft.dev;have C5:=ae λW (X:bw W G g D M s1)=>FP D s1.dv (kL HOP.o nh) u hup W X.ft.dev;rw[<-hU] at C5;have hU2:=hU;rw[hu,abw] at hU2;have HU2:=ae hU2;have HU:=ae hU;rw[hst1] at C3;rw[hnn] at C4;have HC:=ae (show nF x=if(dr s1.dv u).2≠0 then({x with s:={s1 with dv:=(dr s1.dv u).1}},(dr s1.dv u).2) else({x with held:=hs1,ub:=u,s:=rM {s1 with dv:=(dr s1.dv u).1}},0) from by
   rw[<-hx,HG.o];unfold uJ;rw[hx,hue];rfl)
  obtain⟨d1,hd1⟩:=cM (dr s1.dv u);rw[hd1] at HC C5;obtain⟨d1,c2⟩:=d1;simp only at HC C5;rw[<-hx] at HC;clear hU hU2 hu hue hup hst1 hnn hn1 hd1 hx
  go_upto_region 5 with(first|((with_reducible refine pP ?_);refine BN S.x.at.c0 ?_)|(go_at_call 106;refine qJ (C2.o _ S.x.at) ?_;))
  refine Gu S cm [⟨E6,106,3,aN q⟩] L9 (S.x.1.1.2) λW S=>?_;refine bp 0 34 _ ?_;refine bp 1 35 (bZ G 0) ?_;refine bp 2 36 (bZ G 4) ?_;refine bp 3 37 (bZ G 4) ?_;refine gY 4 38 (.int .u64 g.ub.lJ) rfl (bP (λw h=>h.cell 4 au) rfl bF) ?_;refine bp 5 39 (.int .u64 n1) ?_;refine bp 6 40 _ ?_;refine bp 7 41 (bZ G 0) ?_;refine bp 8 42 (bZ G 0) ?_;refine gY 9 43 (bZ g.P 0) rfl (bP (λw h=>h.cell 0 au) rfl sF) ?_;refine gY 11 45 (.agg #[.int .i64 q.1,.int .u64 q.2.1,.int .u32 q.2.2]) rfl (lq (λw h=>h.row 0 rfl) rfl (sR q).symm bd) ?_;refine bp 12 46 _ ?_
  repeat' first|refine Zf ?_|refine nv_ 14 48 (.agg U) rfl (pf rfl (by rw[HU2.o];kernel_rfl)) ?_|refine JV 10 15 (λK hK=>?_) λK hK=>?_|refine tF 10 λK hK=>?_|refine tF 13 λK hK=>?_|refine tF 16 λK hK=>?_|refine JV 13 15 (λK hK=>?_) λK hK=>?_|refine tF 15 λK hK=>?_|(refine bG S zeroValue143 yM rfl λE7 W S=>?_;refine gM hK ?_)|(go_wp2_with fail;refine qJ (C3.o _ S.x.at) ?_;refine gM hK ?_)|(go_wp2_with fail;refine qJ (C4.o _ S.x.at) ?_;refine gM hK ?_)|(refine dL S 0 rfl rfl rfl HU.o s9 (jK _) λW S=>?_;refine gM hK ?_)
  all_goals (
   refine ae ?_
   go_upto_region 7 with(first|(go_at_call 170;refine(C5.o _ S.x.at).mono ?_;rintro e W ⟨rfl,hd,hf⟩;have hX:=λB (hx:kM G g D M s1 B _)=>hx.pl (s':={s1 with dv:=d1}) hf fh ⟨ag.fr hx.1.1.1.row hf (.inr rfl) (.inr fh),hd,hx.1.1.1.map.fr hf fh,hx.1.1.1.ok⟩;replace S:=S.call hf (λD e=>e) fh (c8 G g D M {s1 with dv:=d1}) hX;clear hd hX)|refine fN ?_)
   by_cases g2:c2=0
   case neg=>
    have g3: (c2 != 0)=true:=lh.2 g2;rw[bC g2] at HC;clear g2;go_wp2;go_ret;rw[HC.o];exact⟨g,{s1 with dv:=d1},rfl,rfl,S.x.at,rfl,id,S.fr⟩
   subst g2;rw[bX (show ¬((0:Int)≠0) from λh=>h rfl)] at HC;replace S:=S.vP (X':=Gw G g D M {s1 with dv:=d1}) (λB w h=>h.1) (Gx G g D M _)
   go_upto_region 9 with(fail)
   refine bf S cm [⟨E7,143,7,gg u⟩] L9 λW S=>?_;refine bp 0 55 _ ?_;refine bp 1 56 _ ?_;refine bp 2 57 _ ?_;refine gY 3 58 (.agg U) rfl (lq (λw h=>h.row 0 rfl) rfl HU.o s9) ?_;refine bp 4 59 (bZ G 0) ?_;refine bp 5 60 (bZ G 3) ?_;refine mO 6 λK hK=>?_;refine aan S (.inl fh) hs1 ha hc rfl rfl gx λW S=>?_;refine gM hK ?_;refine bp 7 61 (bZ G 0) ?_;refine bp 8 62 (bZ G 4) ?_;refine mO 9 λK hK=>?_;refine acq S (.inl fh) u rfl rfl HU.o s9 λW S=>?_;refine gM hK ?_;refine uy ?_
   all_goals (
    replace S:St w (some D) [G,M,g.P] _ _ (Gw G ⟨g.P,g.b,hs1,ha,hc,u⟩ D M {s1 with dv:=d1}) W:=S
    go_wp2_with (first
   |((with_reducible refine pP ?_);refine BN (v:=bZ g.P 0) (ag.cell S.x.1.2 (i:=0) au) ?_)
   |(go_at_call 171;refine(FG g.P D M _ _ S.x.1.1).mono ?_;rintro e W ⟨rfl,hp,hf⟩;have hG:G∉ [g.P,M]:=(by rintro(_ | ⟨_,_ | ⟨_,h⟩⟩);exact hn.1 rfl;exact hn.2.1 rfl;cases h);replace S:=S.call hf (λD e=>by cases e) (λk hk=>.inl (by simp only[iI,kz,tZ] at hk ⊢;rcases hk with h | h;exact .inr (.inr h);exact .inr (.inl h))) (Gx G ⟨g.P,g.b,hs1,ha,hc,u⟩ D M (rM {s1 with dv:=d1})) (λB hx=>⟨⟨hp,ag.fr hx.1.2 hf (.inl rfl) (.inr hG)⟩,(fx _ _).fr hx.2 hf⟩);clear hp hG))
    go_ret;rw[HC.o];exact⟨⟨g.P,g.b,hs1,ha,hc,u⟩,rM {s1 with dv:=d1},rfl,rfl,⟨S.x.1.2,S.x.1.1,S.x.2.sl,S.q0⟩,rfl,λ_=>HPL.o,S.fr⟩)))
def pL (x:GT):GT×Int:=
 if x.s.dv.dead=true then(x,42) else
 if 281474976710652<x.ub.lJ∨281474976710652<x.s.ay∨281474976710652<x.b.next then(x,192) else
 if cZ x.s.mp<r8 x.b x.s.dv.n then(x,71) else nF x
theorem Ok (G D M:Nat)(g:dK)(s:Pl)(ht:ct g.b.t)(hp:cx g.held)(hl:g.held.length<=100000)(ho:s.dv.ops<=990000000)(w:aD)(h:bw w G g D M s):
 Calls prog 59 #[.pointer (some ⟨G,0,none⟩)] w λe w'=>sd w w' G D M g (pL (g.gt s)) e:=by
 have S:=St.start w (some D) [G,M,g.P] (c8 G g D M s) h.x;have C1:=ae λW (X:bw W G g D M s)=>iJ g.P D M s.ay s.base W X.ft.row;have C2:=ae λW (X:bw W G g D M s)=>KC D s.dv W X.ft.dev;have C3:=ae λW (X:bw W G g D M s)=>pU g.P D M s.ay s.base W X.ft.row;have C4:=ae λW (X:bw W G g D M s)=>jJ g.P D M s.ay s.base W X.ft.row;have C5:=ae λW (X:bw W G g D M s)=>count_map M s.mp W X.ft.map;have C6:=ae λW (X:bw W G g D M s)=>Dz G D M g s ht W X;have C7:=ae λW (X:bw W G g D M s)=>y7 G D M g s ht hp hl ho W X;have HG:=ae (show pL (g.gt s)=if s.dv.dead=true then(g.gt s,42) else if 281474976710652<g.ub.lJ∨281474976710652<s.ay∨281474976710652<g.b.next then(g.gt s,192) else if cZ s.mp<r8 g.b.t s.dv.n then(g.gt s,71) else nF (g.gt s) from rfl);obtain⟨T,hT⟩:=cM (pL (g.gt s));obtain⟨st,HST⟩:=qI s.ay;obtain⟨cn,hcn⟩:=cM (cZ s.mp);obtain⟨co,hco⟩:=cM (r8 g.b.t s.dv.n);obtain⟨dd,hdd⟩:=cM s.dv.dead;rw[hT,HST.o,hcn,hco,hdd] at HG;rw[hT];rw[hdd] at C2;rw[HST.o] at C3;rw[hcn] at C5;rw[hco] at C6;clear h hT hcn hco hdd ht hp hl ho;go_enter func59,ntmps59;cases dd with
 | true=>
  rw[bC rfl] at HG
  go_wp2_with (first|((with_reducible refine pP ?_);refine BN S.x.at.c0 ?_)|(go_at_call 106;refine qJ (C1.o _ S.x.at) ?_;)|(go_at_call 82;refine qJ (C2.o _ S.x.at) ?_;))
  go_ret;rw[HG.o];exact⟨g,s,rfl,rfl,S.x.at,rfl,id,S.fr⟩
 | false=>
  rw[bX nh] at HG;by_cases h1:281474976710652<g.ub.lJ
  case pos=>
   have d1:decide (281474976710652<g.ub.lJ)=true:=ly h1;have e1:decide ((281474976710652:Int)< (g.ub.lJ:Int))=true:=ly au;rw[bC (.inl h1)] at HG;clear h1
   go_wp2_with (first|((with_reducible refine pP ?_);first | refine BN S.x.at.c0 ?_ | refine BN S.x.at.c4 ?_)|(go_at_call 106;refine qJ (C1.o _ S.x.at) ?_;)|(go_at_call 82;refine qJ (C2.o _ S.x.at) ?_;))
   go_ret;rw[HG.o];exact⟨g,s,rfl,rfl,S.x.at,rfl,id,S.fr⟩
  have d1:decide (281474976710652<g.ub.lJ)=false:=iE h1;have e1:decide ((281474976710652:Int)< (g.ub.lJ:Int))=false:=iE au;by_cases h2:281474976710652<st
  case pos=>
   have d2:decide (281474976710652<st)=true:=ly h2;have e2:decide ((281474976710652:Int)< (st:Int))=true:=ly au;rw[bC (.inr (.inl h2))] at HG;clear h1 h2
   go_wp2_with (first|((with_reducible refine pP ?_);first | refine BN S.x.at.c0 ?_ | refine BN S.x.at.c4 ?_)|(go_at_call 106;refine qJ (C1.o _ S.x.at) ?_;)|(go_at_call 82;refine qJ (C2.o _ S.x.at) ?_;)|(go_at_call 52;refine qJ (C3.o _ S.x.at) ?_;))
   go_ret;rw[HG.o];exact⟨g,s,rfl,rfl,S.x.at,rfl,id,S.fr⟩
  have d2:decide (281474976710652<st)=false:=iE h2;have e2:decide ((281474976710652:Int)< (st:Int))=false:=iE au;by_cases h3:281474976710652<g.b.next
  case pos=>
   have d3:decide (281474976710652<g.b.next)=true:=ly h3;have e3:decide ((281474976710652:Int)< (g.b.next:Int))=true:=ly au;rw[bC (.inr (.inr h3))] at HG;clear h1 h2 h3
   go_wp2_with (first|((with_reducible refine pP ?_);first | refine BN S.x.at.c0 ?_ | refine BN S.x.at.c4 ?_ | refine BN S.x.at.c1 ?_)|(go_at_call 106;refine qJ (C1.o _ S.x.at) ?_;)|(go_at_call 82;refine qJ (C2.o _ S.x.at) ?_;)|(go_at_call 52;refine qJ (C3.o _ S.x.at) ?_;))
   go_ret;rw[HG.o];exact⟨g,s,rfl,rfl,S.x.at,rfl,id,S.fr⟩
  have d3:decide (281474976710652<g.b.next)=false:=iE h3;have e3:decide ((281474976710652:Int)< (g.b.next:Int))=false:=iE au;rw[bX (λh=>h.elim h1 λh=>h.elim h2 h3)] at HG;clear h1 h2 h3;by_cases h4:cn<co
  case pos=>
   have d4:decide (cn<co)=true:=ly h4;rw[bC h4] at HG;clear h4
   go_wp2_with (first|((with_reducible refine pP ?_);first | refine BN S.x.at.c0 ?_ | refine BN S.x.at.c4 ?_ | refine BN S.x.at.c1 ?_)|(go_at_call 106;refine qJ (C1.o _ S.x.at) ?_;)|(go_at_call 82;refine qJ (C2.o _ S.x.at) ?_;)|(go_at_call 52;refine qJ (C3.o _ S.x.at) ?_;)|(go_at_call 25;refine qJ (C4.o _ S.x.at) ?_;)|(go_at_call 61;refine qJ (C5.o _ S.x.at) ?_;)|(go_at_call 121;refine je S (C6.o _ S.x.at) λW S=>?_))
   go_ret;rw[HG.o];exact⟨g,s,rfl,rfl,S.x.at,rfl,id,S.fr⟩
  have d4:decide (cn<co)=false:=iE h4;rw[bX h4] at HG;clear h4
  go_wp2_with (first|((with_reducible refine pP ?_);first | refine BN S.x.at.c0 ?_ | refine BN S.x.at.c4 ?_ | refine BN S.x.at.c1 ?_)|(go_at_call 106;refine qJ (C1.o _ S.x.at) ?_;)|(go_at_call 82;refine qJ (C2.o _ S.x.at) ?_;)|(go_at_call 52;refine qJ (C3.o _ S.x.at) ?_;)|(go_at_call 25;refine qJ (C4.o _ S.x.at) ?_;)|(go_at_call 61;refine qJ (C5.o _ S.x.at) ?_;)|(go_at_call 121;refine je S (C6.o _ S.x.at) λW S=>?_)|(go_at_call 122;refine(C7.o _ S.x.at).mono ?_;rintro e W ⟨g2,s2,rfl,hP,hg,hgt,hpl,hf⟩;have hF:=S.fr.step hf (λD e=>e) (λk hk=>.inl hk);rw[<-HG.o] at hgt;rw[<-HG.o]))
  go_ret;exact⟨g2,s2,rfl,hP,hg,hgt,hpl,hF⟩
section
variable {x:Nat}
theorem St.Xj (S:St w0 d l L O X w)(t:dD)(hA:A=ah n f)(ho:df t=true):St w0 d l L O (λB w'=>X B w'/\ag w' w.heap.size t n f) (w.alloc (.cells A t)):=by
 refine(S.below ((iU _ _).alloc (eO _) _)).sq ?_ ho
 grind[ag.alloc]
theorem Ol (S:St w0 d l L O X w)(hx:a.eval (.tmp x)=.agg A)(hA:A=ah n f)(ho:df ty=true)(h: ∀k W,w0.heap.size<=k->St w0 d l L O (λB w=>X B w/\ag w k ty n f) W->K (a.put (some dst) (.pointer (some ⟨k,0,none⟩))) W):Oper.wp P ⟨some dst,.box ty (.tmp x),t2,p,af,none⟩ a w K Q:=by
 unfold Oper.wp execOp;simp only[py,Instr.box,newVar,newRow,P8,wB,rj];rw[hx];exact h _ _ S.fr.size (S.Xj ty hA ho)
theorem Gz (S:St w0 d l L O X w)(hx:a.eval (.tmp x)=.agg A)(hA:A=ah n f)(ho:df ty=true)(h: ∀k W,w0.heap.size<=k->St w0 d l L O (λB w=>X B w/\ag w k ty n f) W->wpList P ops Q rest (a.put (some dst) (.pointer (some ⟨k,0,none⟩))) W):wpList P ops Q (⟨some dst,.box ty (.tmp x),t2,p,af,none⟩::rest) a w:=by
 refine sD rfl λK hK=>?_;unfold Oper.wp execOp;simp only[py,Instr.box,newVar,newRow,P8,wB,rj];rw[hx];exact hK _ _ (h _ _ S.fr.size (S.Xj ty hA ho))
end
theorem DH (G D M:Nat)(g:dK)(s:Pl)(hf:rY g.b.t)(hl:g.held.length<=1000000)(w:aD)(h:bw w G g D M s):
 Calls prog 58 #[.pointer (some ⟨G,0,none⟩)] w λe w'=>∃G2 g2 M2,e=.returned (.pointer (some ⟨G2,0,none⟩))/\w.heap.size<=G2/\w.heap.size<=g2.P/\w.heap.size<=M2/\bw w' G2 g2 D M2 s/\g2.gt s=g.gt s/\dp w w':=by
 obtain⟨A,hA⟩:=gq (ah 2 (bg g.b));have HA:=ae hA;obtain⟨U,HU⟩:=BU (ah 7 (gg g.ub));have HG:=ae h;have C1:=ae λW (hb:dp w W)=>iJ g.P D M s.ay s.base W ((h.below hb).ft.row);have C2:=ae λW (hb:dp w W)=>jJ g.P D M s.ay s.base W ((h.below hb).ft.row);have C3:=ae λW (hb:dp w W)=>(VY M s.mp W ((h.below hb).ft.map)).mono λe w' (h9:_/\_/\_)=>(show ∃k,e=.returned (bZ k 0)/\w.heap.size<=k/\bU w' k s.mp/\dp W w' from⟨_,h9.1,hb.size,h9.2.1,h9.2.2⟩);have C4:=ae λW (hb:dp w W)=>pU g.P D M s.ay s.base W ((h.below hb).ft.row);have C5:=ae λW (hb:dp w W)=>KI g.P D M s.ay s.base W ((h.below hb).ft.row);have C6:=ae λM2 W (hb:dp w W)=>(wR D M2 s.ay s.base W).mono λe w' (h9:_/\_/\_)=>(show ∃k,e=.returned (bZ k 0)/\w.heap.size<=k/\il w' k D M2 s.ay s.base/\dp W w' from⟨_,h9.1,hb.size,h9.2.1,h9.2.2⟩);have C7:=ae λW (hb:dp w W)=>tL g.b A hA hf W ((h.below hb).book);have C8:=ae λW (hb:dp w W)=>IF g.held g.hv hl W ((h.below hb).held);unfold dK.hv at C8;have S:=ug w;clear h hA hf hl;go_enter func58,ntmps58
 go_upto_region 2 with(with_reducible refine jo 7 68 6 (HG.o.below S.b).c0 ?_)
 refine ve S cm λW S=>?_;refine bp 0 8 _ ?_;refine bp 2 10 _ ?_;refine bp 5 13 _ ?_;refine bp 7 15 _ ?_;refine bp 10 18 _ ?_;refine bp 11 19 (bZ G 0) ?_;refine bp 12 20 (bZ G 1) ?_;refine gY 13 21 (.agg A) rfl (Wz (λw h=>by obtain⟨_,_,_,S⟩:=h;exact(HG.o.below S.b).row) (o:=1) (m:=2) rfl (bg g.b) au (λi hi=>by rcases i with(_|_|i) <;> first | rfl | omega) HA.o fe) ?_;refine bp 15 23 _ ?_;refine bp 16 24 (bZ G 0) ?_;refine bp 17 25 (bZ G 3) ?_;refine gY 18 26 (.slice g.ho g.held.length g.hc) rfl (bP (λw h=>by obtain⟨_,_,_,S⟩:=h;exact(HG.o.below S.b).c3) rfl gx) ?_;refine bp 20 28 _ ?_;refine bp 21 29 (bZ G 0) ?_;refine bp 22 30 (bZ G 4) ?_;refine gY 23 31 (.agg U) rfl (Wz (λw h=>by obtain⟨_,_,_,S⟩:=h;exact(HG.o.below S.b).row) (o:=4) (m:=7) rfl (gg g.ub) au (λi hi=>by unfold p5;grind) HU.o s9) ?_;refine mO 1 λK hK=>?_
 go_wp2_with fail
 refine qJ (C1.o _ S.b) ?_;refine gM hK ?_;refine mO 3 λK hK=>?_
 go_wp2_with fail
 refine qJ (C2.o _ S.b) ?_;refine gM hK ?_;refine mO 4 λK hK=>?_
 go_wp2_with fail
 refine(C3.o _ S.b).mono ?_;rintro e W ⟨M2,rfl,hM2,hm,hb⟩;have HM2:=ae hM2;replace S:=(S.below hb).sq hm rfl;clear hm hb hM2;refine gM hK ?_;refine mO 6 λK hK=>?_
 go_wp2_with fail
 refine qJ (C4.o _ S.b) ?_;refine gM hK ?_;refine mO 8 λK hK=>?_
 go_wp2_with fail
 refine qJ (C5.o _ S.b) ?_;refine gM hK ?_;refine mO 9 λK hK=>?_
 go_wp2_with fail
 refine(C6.o M2 _ S.b).mono ?_;rintro e W ⟨P2,rfl,hP2,hm,hb⟩;have HP2:=ae hP2;replace S:=(S.below hb).sq hm rfl;clear hm hb hP2;refine gM hK ?_;refine mO 14 λK hK=>?_
 go_wp2_with fail
 refine(C7.o _ S.b).mono ?_;rintro e W ⟨B,rfl,⟨c,hB,hc,ho⟩,hb⟩;have HB:=ae hB;have HC:=ae hc;have HF:=ae (S.fresh ho);replace S:=S.bB hb ho;clear hb hB hc;refine gM hK ?_;refine mO 19 λK hK=>?_
 go_wp2_with fail
 refine(C8.o _ S.b).mono ?_;rintro e W ⟨r,rfl,ho,hb⟩;have HF2:=ae (aH ho);replace S:=S.cU hb ho rfl rfl;clear hb;obtain⟨ha,hc,rfl⟩:=HF2.o;refine gM hK ?_;refine gY 24 32 (.agg (ah 11 (p5 ⟨P2,c,g.held,ha,hc,g.ub⟩))) rfl (pf rfl (by rw[HB.o,HU.o];kernel_rfl)) ?_;refine mO 25 λK hK=>?_;refine Ol S rfl rfl rfl λG2 W hG2 S=>?_;refine gM hK ?_;refine bp 26 2 _ ?_;refine uy ?_;go_wp2;go_ret;exact⟨G2,⟨P2,c,g.held,ha,hc,g.ub⟩,M2,rfl,hG2,HP2.o,HM2.o,⟨S.x.2,⟨S.x.1.1.2,(HG.o.below S.b).ft.dev,S.x.1.1.1.2,HG.o.ft.ok⟩,⟨S.q1,λx hx=>(S.x.1.2 x hx).1⟩,S.q0⟩,by unfold dK.gt;rw[<-HC.o],S.b⟩
def y8 (f:Nat->aK):Prop:=∀i,fa (f i)
theorem Ur (d:Dv): (cS d).nw=d.nw:=by grind[cS]
theorem Kc (d:Dv) (i:Int): (eL d i).1.nw=d.nw:=Ur d
theorem GA {d:Dv} (h:y8 d.nw) (i:Int):fa (eL d i).2.1:=by
 unfold eL;simp only;split
 . split
   . exact kt
   . exact h _
 . exact kt
theorem Kd (s:Pl) (q:aq): (dW s q).1.dv.nw=s.dv.nw:=by
 grind[dW,Kc]
theorem Ke (h:y8 s.dv.nw)(q:aq):fa (dW s q).2.1:=by
 grind[dW,kt,GA]
theorem mV (s:Pl) (q:aq): (aO s q).1.dv.nw=s.dv.nw:=by
 grind[aO,Kd]
theorem Bw {α β:Type} {f:Pl×β->α->Pl×β} (h: ∀a x,(f a x).1.dv.nw=a.1.dv.nw): ∀(l:List α) (a:Pl×β),(l.foldl f a).1.dv.nw=a.1.dv.nw
 | [],_=>rfl
 | x::l,a=>by rw[Hz,Bw h l (f a x),h]
theorem LI (want:Nat) (x:Pl×(List aq×Int)) (q:aq): (dj want x q).1.dv.nw=x.1.dv.nw:=by
 grind[dj,mV]
theorem DI (x:Pl×(List aq×List aq×Int)) (want:Nat): (ec x want).1.dv.nw=x.1.dv.nw:=by
 grind[ec,cT,Bw,LI]
theorem DJ (x:Pl×(aK×Int)) (q:aq): (gy x q).1.dv.nw=x.1.dv.nw:=by
 grind[gy,Kd]
theorem Om (s:Pl) (l:List aq) (n:Nat): (bW s l n).1.dv.nw=s.dv.nw:=by
 grind[nE,Bw,DJ,bW]
theorem DK (s:Pl) (root:aq) (n:Int): (bQ s root n).1.dv.nw=s.dv.nw:=by
 grind[bQ,Bw,DI,Om]
theorem DL: ∀(l:List aq) (x:Pl×(aK×Int)),y8 x.1.dv.nw->(∀c∈x.2.1,c<256)->∀c∈(l.foldl gy x).2.1,c<256
 | [],_,_,h=>h
 | q::l,x,hn,h=>by
  rw[Hz];refine DL l (gy x q) (by grind[DJ]) ?_;unfold gy;split
  . exact h
  split
  . grind
  . intro c hc;rcases jn.1 hc with hc | hc
    . grind
    . exact(Ke hn q).2 c hc
theorem On (s:Pl) (hs:y8 s.dv.nw) (l:List aq) (n:Nat): ∀c∈(bW s l n).2.1,c<256:=by
 have h:=DL l (s,([],0)) hs (λc hc=>absurd hc kz);unfold bW
 grind[nE]
theorem Oo (s:Pl)(hs:y8 s.dv.nw)(root:aq)(n:Int): ∀c∈(bQ s root n).2.1,c<256:=by
 unfold bQ;have h1: ((lr n).foldl ec (s,([root],[root],0))).1.dv.nw=s.dv.nw:=Bw DI _ _
 grind[On]
theorem GB (s:Pl)(hb:aK): (fI s hb).1.dv.nw=s.dv.nw:=by
 grind[fI,DK]
theorem QW (s:Pl)(hs:y8 s.dv.nw)(hb:aK): ∀c∈(fI s hb).2.1,c<256:=by
 unfold fI;split
 . grind
 . exact Oo _ hs _ _
theorem DM (s:Pl)(hb:aK): (fI s hb).1.dv.ops<=s.dv.ops+6200:=by
 unfold fI;split
 . grind
 grind[q6]
theorem Xk (n:Nat) (top:List aq) (h g:Pl×(aK×List aq×Int)) (hl: ∀c∈h.2.1,c<256):ct (ml3 n top h g).1:=by
 have h0:ct sa:=⟨by decide,⟨by simp[sa],λt h=>absurd h kz⟩,λs h=>absurd h kz⟩
 grind[ml3,Xf]
theorem Xl (n:Nat) (top:List aq) (h g:Pl×(aK×List aq×Int)): (ml3 n top h g).2.2.1.length<=top.length+h.2.2.1.length+g.2.2.1.length:=by
 unfold ml3
 grind
theorem vA:ct sa:=⟨by decide,⟨by simp[sa],λt h=>absurd h kz⟩,λs h=>absurd h kz⟩
theorem GC (s:Pl)(hs:y8 s.dv.nw)(t:aq):ct (iu s t).2.1/\(iu s t).2.2.2.1.length<=20000/\(iu s t).1.dv.ops<=s.dv.ops+20000/\(iu s t).1.dv.nw=s.dv.nw:=by
 unfold iu;have o1:=q6 s t 40;have n1:=DK s t 40;have l1:=mL s t 40;split
 . exact⟨vA,kf _,by grind,n1⟩
 generalize bQ s t 40=a at o1 n1 l1 ⊢;unfold ml1;have o2:=DM a.1 (a.2.1.take 20);have n2:=GB a.1 (a.2.1.take 20);have l2:=tp a.1 (a.2.1.take 20);have b2:=QW a.1 rE (a.2.1.take 20);simp only;generalize fI a.1 (a.2.1.take 20)=h at o2 n2 l2 b2 ⊢;split
 . exact⟨vA,kf _,by grind,n2.trans n1⟩
 unfold ml2;have o3:=DM h.1 (a.2.1.drop 20);have n3:=GB h.1 (a.2.1.drop 20);have l3:=tp h.1 (a.2.1.drop 20);simp only;generalize fI h.1 (a.2.1.drop 20)=g at o3 n3 l3 ⊢;split
 . exact⟨vA,kf _,by grind,(n3.trans n2).trans n1⟩
 . grind[Xl,Xk]
theorem GD {s:aK} (h:fa s) {u:nu} (e:im s=some u):kp u:=by
 unfold im at e;split at e
 . cases e
 . next q hq=>
   split at e
   . cases e;exact AG h.2 (ql (λx hx=>h.2 x (vF (rD hx))) hq)
   . cases e
theorem GF (x:Dv×List nu)(i:Nat)(h:y8 x.1.nw)(hu: ∀u∈x.2,kp u): (oN x i).1.nw=x.1.nw/\(oN x i).1.ops<=x.1.ops+1/\∀u∈(oN x i).2,kp u:=by
 grind[Kc,QU,GA,oN,GD]
theorem Bx (d:Dv) (h:y8 d.nw): ∀k,(iH d k).1.nw=d.nw/\(iH d k).1.ops<=d.ops+k/\∀u∈(iH d k).2,kp u
 | 0=>⟨rfl,eO _,λu hu=>absurd hu kz⟩
 | k+1=>by
  obtain⟨h1,h2,h3⟩:=Bx d h k;rw[xd];obtain⟨g1,g2,g3⟩:=GF (iH d k) k (by rw[h1];exact h) h3;exact⟨g1.trans h1,au,g3⟩
theorem Oq:kp nL:=⟨by decide,by decide,⟨by decide,by decide,by decide⟩,by decide,by decide⟩
theorem xu (d:Dv)(h:y8 d.nw): (eu d).1.nw=d.nw/\(eu d).1.ops<=d.ops+4/\kp ((eu d).2.getD nL):=by
 obtain⟨h1,h2,h3⟩:=Bx d h 4;refine⟨h1,h2,?_⟩;cases e: (eu d).2 with
 | none=>exact Oq
 | some u=>
  have hm:u∈nH (iH d 4).2:=mem_of_getLast? e
  grind[oM]
def oV (s:cu):Prop:=s.dead.length<=1000000/\s.name.size<=1000/\vt s
theorem ct.of (h1:b.next<18446744073709551616)(h2:b.bO.length<=1000000)(h3: ∀s∈b.bO,oV s):ct b:=
 ⟨h1,⟨h2,λt ht=>⟨(h3 t ht).1,(h3 t ht).2.1⟩⟩,λs hs=>(h3 s hs).2.2⟩
theorem ct.ok (h:ct b): ∀s∈b.bO,oV s:=λs hs=>⟨(h.fit.2 s hs).1,(h.fit.2 s hs).2,h.parts s hs⟩
theorem j9:oV jN:=⟨kf _,kf _,bD,λq h=>absurd h kz⟩
theorem p7 {l:List cu} (h: ∀s∈l,oV s) (k:Nat):oV (di l k):=by
 grind[di,j9]
theorem Ot {l:List cu}(h: ∀s∈l,oV s)(k:Option Nat):oV (L' l k):=by
 cases k<;>grind[j9,p7,L']
theorem By {l:List cu}(h: ∀s∈l,oV s){x:cu}(hx:oV x)(i:Nat): ∀s∈l.set i x,oV s:=by grind
theorem Kf {l:List cu}(h: ∀s∈l,oV s)(i:Nat): ∀s∈l.eraseIdx i,oV s:=by grind[mem_of_mem_eraseIdx]
theorem GG {full vol:lf} (h:qP full=some vol):vol.size<=24:=by
 grind[qP,iq,qG]
theorem GH {full vol snap:lf} (h:dQ full=some (vol,snap)):snap.size<=24:=by
 unfold dQ at h;split at h
 . cases h
 . next hn=>
   simp only[EZ,Prod.mk.injEq] at h;rw[<-h.2];cases hr:cq (tJ full).2.1 with
   | true=>exact iq hr
   | false=>
    have h2: (tJ full).2.2=false:=by
     grind
    unfold tJ at h2 ⊢;split at h2
    . cases h2
    . next hc=>rw[bX hc];exact kf _
theorem Ou {full vol snap:lf}(h:k8 full=some (vol,snap)):vol.size<=24/\snap.size<=24:=by
 grind[k8,iq,qG,GH]
theorem Ov (n:Nat):jW n<18446744073709551616:=wT n
theorem DN (h:ct b)(h2:b.bO.length<32){s:cu}(hs:oV s):ct (xi b s):=
 ct.of (Ov _) (by grind[xi]) λt ht=>by
  rcases jn.1 ht with ht | ht
  . exact h.ok t ht
  grind
theorem vT (h:ct b)(full:lf)(n:Int):ct (fz b full n).1:=by
 unfold fz;split
 . exact h
 . next vol hv=>
   split
   . exact h
   split
   . exact h
   . next h32=>
     split
     . exact h
     . refine DN h au ⟨kf _,?_,bD,λq h=>absurd h kz⟩
       grind[GG]
theorem xv (h:ct b)(f t:lf):ct (fY b f t).1:=by
 unfold fY;split
 . exact h
 split
 . exact h
 next vol hv=>
 split
 . exact h
 next i _=>
 split
 . exact h
 next h32=>
 split
 . exact h
 . have hg:=p7 h.ok i;refine DN h au ⟨kf _,?_,hg.2.2.1,λq h=>absurd h kz⟩
   grind[GG]
theorem za (h:ct b)(f:lf)(st:Nat):ct (eR b f st).1:=by
 unfold eR;split
 . exact h
 next vol snap hv=>
 split
 . exact h
 next i _=>
 split
 . exact h
 next h32=>
 split
 . exact h
 split
 . exact h
 . have hg:=p7 h.ok i;have hz:=(Ou hv).2;refine ct.of (Ov _) rE (By (x:={di b.bO i with prev:=b.next,dead:=[]}) (λt ht=>?_) ⟨kf _,hg.2.1,hg.2.2.1,λq h=>absurd h kz⟩ i);rcases jn.1 ht with ht | ht
   . exact h.ok t ht
   . rw[gz.1 ht];exact⟨hg.1,by grind,hg.2.2⟩
theorem Kg (l:List cu) (id:Nat): ∀(ms:aK) (s r:List cu),(∀t∈s,oV t)->vq l id ms s=some r->(∀t∈r,oV t)/\r.length=s.length
 | [],s,r,h,e=>by cases e<;>grind
 | m::ms,s,r,h,e=>by
  rw[Dw] at e;split at e
  . cases e
  . next j _=>
    split at e
    . cases e
    . have hg:=p7 h j;have:=Kg l id ms _ r (By h (x:={di s j with owner:=id}) ⟨hg.1,hg.2.1,hg.2.2⟩ j) e;rw[En] at this;exact this
theorem uK (h:ct b)(f:lf):ct (ei b f).1:=by
 unfold ei;split
 . exact h
 split
 . exact h
 split
 . exact h
 . next s hs=>
   obtain⟨h1,h2⟩:=Kg _ _ _ _ _ h.ok hs;exact ct.of h.next (by rw[h2];exact h.fit.1) h1
theorem zd (h:ct b)(f:lf):ct (jE b f).1/\oV (jE b f).2.1:=by
 unfold jE;split
 . grind[j9]
 next i _ _=>
 split
 . grind[j9]
 . next j _=>
   have hi:=p7 h.ok i;have hj:=p7 h.ok j;exact⟨ct.of h.next (by rw[En];exact h.fit.1) (By (x:={di b.bO i with root:=(di b.bO j).root,dead:=[]}) h.ok ⟨kf _,hi.2.1,hj.2.2.1,λq h=>absurd h kz⟩ i),hi⟩
theorem uL (h:ct b)(f:lf):ct (eM b f).1/\oV (eM b f).2.1:=by
 unfold eM;split
 . grind[j9]
 next i _ _=>
 split
 . grind[j9]
 . exact⟨ct.of h.next (kL (length_eraseIdx_le _ _) h.fit.1) (Kf h.ok i),p7 h.ok i⟩
theorem zU: ∀(a b r:List aq),gl a b=some r->∀q∈r,q∈a∨q∈b
 | [],b,r,e=>by grind[gl]
 | p::a,[],r,e=>by grind[gl]
 | p::a,q::b,r,e=>by
  rw[gl] at e;split at e
  . obtain⟨r',h1,rfl⟩:=XY.1 e;intro x hx;rcases iI.1 hx with rfl | hx
    . grind
    . exact(zU a (q::b) r' h1 x hx).imp (yz _) id
  split at e
  . obtain⟨r',h1,rfl⟩:=XY.1 e;intro x hx;rcases iI.1 hx with rfl | hx
    . grind
    . exact(zU (p::a) b r' h1 x hx).imp id (yz _)
  . cases e
termination_by a b=>a.length+b.length
theorem tq (h:ct b)(f:lf):ct (dJ b f).1/\cx (dJ b f).2.1/\(dJ b f).2.1.length<=1000000:=by
 unfold dJ;split
 . simp_all[bm]
 split
 . simp_all[bm]
 next i _=>
 split
 . simp_all[bm]
 split
 . simp_all[bm]
 next j _=>
 split
 . simp_all[bm]
 next all hm=>
 split
 . simp_all[bm]
 next h4=>
 have hi:=p7 h.ok i;have hj:=p7 h.ok j;refine⟨ct.of h.next (kL (length_eraseIdx_le _ _) (by rw[En];exact h.fit.1)) (Kf (By (x:={di b.bO j with dead:=all,prev:=(di b.bO i).prev}) h.ok ⟨?_,hj.2.1,hj.2.2.1,λq hq=>?_⟩ j) i),λq hq=>?_,?_⟩
 . grind
 . rcases zU _ _ _ hm q hq with h1 | h1
   . unfold ln at h1;exact hj.2.2.2 q (List.mem_filter.1 h1).1
   . exact hi.2.2.2 q h1
 . unfold jB at hq;exact hj.2.2.2 q (List.mem_filter.1 hq).1
 . unfold jB;exact kL (SA _ _) hj.1
theorem Cr (floor:Nat): ∀(l:List aq) (s r:List aq×List aq),cx l->cx s.1->s.1.length<=1000000->cx s.2->tK floor l s=some r->(cx r.1/\r.1.length<=1000000)/\cx r.2/\r.2.length<=s.2.length+l.length
 | [],s,r,_,h1,h2,h3,e=>by cases e<;>grind
 | q::l,s,r,hl,h1,h2,h3,e=>by
  rw[xl] at e;have hq:=hl q D0;have hl':cx l:=λx hx=>hl x (yz _ hx);split at e
  . have:=Cr floor l (s.1,s.2++[q]) r hl' h1 h2 (λx hx=>by
     rcases jn.1 hx with hx | hx
     . exact h3 x hx
     grind) e
    grind
  . split at e
    . cases e
    . next m hm=>
      split at e
      . cases e
      . next h4=>
        have hpm:cx m:=by
         unfold nI at hm;split at hm
         . cases hm
         split at hm
         . cases hm
         . cases hm;intro x hx;rcases jn.1 hx with hx | hx
           . exact h1 x (rD hx)
           . rcases iI.1 hx with rfl | hx
             . exact hq
             . exact h1 x (vF hx)
        have:=Cr floor l (m,s.2) r hl' hpm rE h3 e
        grind
theorem ze (h:ct b)(id:Nat)(l:List aq)(hl:cx l):ct (iP b id l).1/\cx (iP b id l).2.1/\(iP b id l).2.1.length<=l.length:=by
 unfold iP;split
 . simp_all[bm]
 next i _=>
 split
 . simp_all[bm]
 . next d g hk=>
   have hi:=p7 h.ok i;obtain⟨h1,h2,h3⟩:=Cr _ _ ((di b.bO i).dead,[]) _ hl hi.2.2.2 hi.1 bm hk;refine⟨ct.of h.next (by rw[En];exact h.fit.1) (By (x:={di b.bO i with dead:=d}) h.ok ⟨h1.2,hi.2.1,hi.2.2.1,h1.1⟩ i),h2,?_⟩
   grind
theorem DO (h:y8 s.dv.nw)(q:aq): ∀i,i<8->bt ((aO s q).2.1 i):=by
 have hs:=Ke h q;unfold aO;split
 . intro i _;exact bD
 split
 . intro i _;exact bD
 . next l e=>exact λi _=>wW hs e i
theorem DP {l:Nat->aq}(h: ∀i,i<8->bt (l i)):cx (iT l):=by
 intro q hq;unfold iT at hq
 grind
theorem zf (ay:Nat): ∀(l:List aq) (x:Pl×(List aq×Int)),y8 x.1.dv.nw->cx l->cx x.2.1->cx (l.foldl (iX ay) x).2.1/\(l.foldl (iX ay) x).2.1.length<=x.2.1.length+9*l.length/\(l.foldl (iX ay) x).1.dv.nw=x.1.dv.nw
 | [],x,_,_,h=>⟨h,eO _,rfl⟩
 | q::l,x,hn,hl,h=>by
  rw[Hz];have hq:=hl q D0;have key:cx (iX ay x q).2.1/\(iX ay x q).2.1.length<=x.2.1.length+9/\(iX ay x q).1.dv.nw=x.1.dv.nw:=by
   unfold iX;split
   . grind
   split
   . grind
   split
   . simp_all[bm,mV]
   . refine⟨λy hy=>?_,?_,mV _ _⟩
     . rcases jn.1 hy with hy | hy
       . exact h y hy
       . rcases iI.1 hy with rfl | hy
         . exact hq
         . exact DP (DO hn q) y (List.mem_filter.1 hy).1
     grind[kH]
  have:=zf ay l (iX ay x q) rE (λy hy=>hl y (yz _ hy)) key.1
  grind
theorem I2 (h:y8 s.dv.nw)(hq:bt q)(st:Nat):cx (iK s q st).2.1/\(iK s q st).2.1.length<=73/\(iK s q st).1.dv.nw=s.dv.nw:=by
 unfold iK;split
 . exact⟨bm,kf _,rfl⟩
 split
 . simp_all[bm,mV]
 . have:=zf st (iT (aO s q).2.1) ((aO s q).1,([q],0)) (by grind[mV]) (DP (DO h q)) (λy hy=>by grind)
   grind[kH,mV,yL]
theorem vU {y:Way} {q:aq} (h1: ∀k,bt (y.first k)) (h2:bt y.block) (hq:bt q) (i:Nat):cx (jh y q i)/\(jh y q i).length<=3:=by
 unfold jh;refine⟨λx hx=>?_,SA _ _⟩
 grind
theorem zh (hd:nO s.dv)(hs:ll s.ay)(hq:bt q)(i:Int)(b:aK):bt (kW s q i b).2.1/\cx (kW s q i b).2.2.1/\(kW s q i b).2.2.1.length<=3:=by
 have h0:bt q/\cx ([]:List aq)/\([]:List aq).length<=3:=⟨hq,bm,kf _⟩;obtain⟨w1,w2,w3⟩:=mf hd q i.toNat;unfold kW;simp only;split<;>grind[vU,jy,jA,wZ,oH]
theorem LJ {s:Pl} (hs:ll s.ay) {y:Way} (h1: ∀k,bt (y.first k)) (h2:bt y.block) {q:aq} (hq:bt q) (i:Nat):bt (nP s y q i).2.1/\cx (nP s y q i).2.2.1/\(nP s y q i).2.2.1.length<=3:=by
 have h0:bt q/\cx ([]:List aq)/\([]:List aq).length<=3:=⟨hq,bm,kf _⟩
 grind[vU,nP,jA,jy,bD]
theorem xw (hd:nO s.dv)(hs:ll s.ay)(hq:bt q)(i:Int):bt (iM s q i).2.1/\cx (iM s q i).2.2.1/\(iM s q i).2.2.1.length<=3:=by
 have h0:bt q/\cx ([]:List aq)/\([]:List aq).length<=3:=⟨hq,bm,kf _⟩
 grind[mf,iM,LJ,oH]
def se (x:GT) (b:cL):GT:={x with b:=b}
def DQ (x:GT):Int:=if vR (r8 x.b x.s.dv.n) (cZ x.s.mp) x.held.length=true then 0 else 71
def xx (x:GT) (r:cL×Int):GT×Int:=if r.2≠0 then(x,r.2) else(se x r.1,DQ (se x r.1))
def oW (full:lf) (n:Int) (x:GT):GT×Int:=if 281474976710651<x.b.next then(x,192) else xx x (fz x.b full n)
def sf (f t:lf) (x:GT):GT×Int:=if 281474976710651<x.b.next then(x,192) else xx x (fY x.b f t)
def xy (full:lf) (x:GT):GT×Int:=
 if 281474976710651<x.b.next∨281474976710651<x.s.ay then(x,192) else
 if(eR x.b full x.s.ay).2≠0 then(x,(eR x.b full x.s.ay).2) else
 ({se x (eR x.b full x.s.ay).1 with s:=u3 x.s},DQ {se x (eR x.b full x.s.ay).1 with s:=u3 x.s})
def mq (full:lf) (x:GT):GT×Int:=if(ei x.b full).2≠0 then(x,(ei x.b full).2) else(se x (ei x.b full).1,0)
def EH (b:cL) (x:GT) (r:Pl×(List aq×Int)):GT×Int:=
 if r.2.2≠0 then({x with s:=r.1},F8 r.2.2) else({x with b:=b,s:=dI r.1 r.2.1},0)
def Cs (b:cL) (old:cu) (x:GT):GT×Int:=EH b x (iK x.s old.root (iO x.b.bO old.id))
def xz (x:GT) (r:cL×(cu×Int)):GT×Int:=if r.2.2≠0 then(x,r.2.2) else Cs r.1 r.2.1 x
def zi (full:lf) (x:GT):GT×Int:=xz x (jE x.b full)
def LK (x:GT) (r:cL×(List aq×Int)):GT×Int:=
 if r.2.2=131 then(x,91) else if r.2.2≠0 then(x,r.2.2) else({x with b:=r.1,s:=dI x.s r.2.1},0)
def mr (full:lf) (x:GT):GT×Int:=
 (dQ full).elim (x,141) λp=>if p.2=ov then xz x (eM x.b full) else LK x (dJ x.b full)
def nJ (b:cL) (id:Nat) (root:aq):cL:=⟨b.next,b.bO.map λs=>if s.id=id then {s with root:=root} else s⟩
def LL (x:GT) (r:cL×(List aq×Int)):GT×Int:=
 if r.2.2≠0 then(x,F8 r.2.2) else({x with b:=r.1,s:=dI x.s r.2.1},DQ {x with b:=r.1,s:=dI x.s r.2.1})
def DR (id:Nat) (root:aq) (old:List aq) (x:GT):GT×Int:=LL x (iP (nJ x.b id root) id old)
def DS (id:Nat) (x:GT) (t:Pl×(aq×(List aq×Int))):GT×Int:=
 if t.2.2.2≠0 then({x with s:=t.1},F8 t.2.2.2) else DR id t.2.1 t.2.2.1 {x with s:=t.1}
def sg (full:lf) (i:Int) (bs:aK) (x:GT):GT×Int:=
 if(uG x.b full i).2≠0 then(x,(uG x.b full i).2) else if 128<bs.length then(x,92) else
 DS (uG x.b full i).1.id x (kW x.s (uG x.b full i).1.root i bs)
def xA (full:lf) (i:Int) (x:GT):GT×Int:=
 if(uG x.b full i).2≠0 then(x,(uG x.b full i).2) else DS (uG x.b full i).1.id x (iM x.s (uG x.b full i).1.root i)
def asked (x:GT) (d:Dv):GT:={x with s:={x.s with dv:=d}}
def zV (x:GT) (r:GT×Int):GT×Int:=if r.2≠0 then(asked x r.1.s.dv,r.2) else(r.1,0)
def fq (x:GT) (k:GT->GT×Int):GT×Int:=if x.s.dv.dead=true then(x,42) else zV x (k x)
structure Bz (x:GT):Prop where
 text:ct x.b
 mZ:x.held.length<=100000
 ops:x.s.dv.ops<=990000000
def cY (w:aD) (K D:Nat) (x:GT):Prop:=∃G g M,nR w K G g D M x.s/\g.gt x.s=x/\cx x.held
theorem gX.and {Y:aK->aD->Prop}(h:gX d X)(g:gX d Y):gX d (λB w=>X B w/\Y B w):=
 ⟨λa b=>⟨h.below a.1 b,g.below a.2 b⟩,λa b=>⟨h.add a.1 b,g.add a.2 b⟩,λa b=>⟨h.mono a.1 b,g.mono a.2 b⟩,λa b c t u v=>⟨h.but a.1 b c t u v,g.but a.2 b c t u v⟩,λa e=>h.dev a.1 e⟩
theorem bw.xB (h:bw w G g D M s)(hB: ∀b∈B,du w b≠some 109/\du w b≠some 106):kM G g D M s B w:=
 ⟨⟨⟨h.ft,h.row⟩,⟨⟨h.book.1,λhn b hb hm=>(hB b hm).1 (ar.ty h.book.1 hb hn)⟩,λx hx=>⟨h.book.2 x hx,λhn b hb hm=>(hB b hm).2 (ar.ty (h.book.2 x hx) hb hn)⟩⟩⟩,⟨h.held,λhn b hb hm=>(hB b hm).2 (ar.ty (show ar w 106 3 g.hv g.held.length (eo g.held) from h.held) hb hn)⟩⟩
def rn (K G:Nat) (g:dK) (D M:Nat) (s:Pl):aK->aD->Prop:=λB w=>kM G g D M s B w/\ag w K 101 1 (λ_=>.pointer (some ⟨G,0,none⟩))
theorem eP (K G:Nat)(g:dK)(D M:Nat)(s:Pl):gX (some D) (rn K G g D M s):=(c8 G g D M s).obj (t:=101) (n:=1) (b:=K) (f:=λ_=>bZ G 0) rfl
theorem rn.at {K:Nat}(h:rn K G g D M s B w):nR w K G g D M s:=⟨h.2,h.1.at⟩
theorem nR.x {K:Nat}(h:nR w K G g D M s):rn K G g D M s [] w:=⟨h.A7.x,h.row⟩
theorem bw.beside {G2 M2:Nat}{g2:dK}{s3:Pl}(h:bw w G g D M s)(h2:bw w' G2 g2 D M2 s3)(f:Fr (some D) l w w')(hG:G∉l)(hM:M∉l)(hP:g.P∉l):bw w' G g D M {s with dv:=s3.dv}:=
 ⟨ag.fr h.row f (.inr rfl) (.inr hG),⟨ag.fr h.ft.row f (.inr rfl) (.inr hP),h2.ft.dev,h.ft.map.fr f hM,h.ft.ok⟩,
  ⟨ar.fr h.book.1 f (.inr rfl) rfl,λx hx=>ar.fr (h.book.2 x hx) f (.inr rfl) rfl⟩,ar.fr (show ar w 106 3 g.hv g.held.length (eo g.held) from h.held) f (.inr rfl) rfl⟩
theorem St.Us (S:St w0 d l L O X w)(hs:gX d X')(hx:X' (bE L O) w):St w0 d l L O X' w:=
 ⟨S.fr,S.row,S.own,S.lo,S.nd,hx,hs⟩
theorem abx:fu prog 118 1:=⟨⟨_,underlying118,rfl⟩,cm⟩
instance in7b579 :td 118 1:=⟨abx⟩
theorem U5: (#[.pointer none]:iw)=ah 1 (λ_=>.pointer none):=rfl
instance in7c1c8 :ZR 118 1 (λ_=>.pointer none):=⟨_,zeroValue118,U5⟩
theorem vB (G D M:Nat)(g:dK)(s:Pl)(l:List aq)(hl:cx l)(hlen:l.length<=1000000)(v:bh)(A0:iw)(hA0:A0=ah 1 (λ_=>.pointer (some ⟨G,0,none⟩)))(w:aD)(h:bw w G g D M s)(R:fM w v l):
 Calls prog 67 #[.agg A0,v] w λe w'=>e=.returned (.tuple #[])/\bw w' G g D M (dI s l)/\Fr (some D) [M] w w':=by
 obtain⟨ao,cap,rfl,hcap,hao⟩:=aR R;have HR:=ae R;have hao:=ae hao;have HA0:=ae hA0;have HO:=ae hl;have S:=St.start w (some D) [M] (c8 G g D M s) h.x;have HGP:=ae (kM.IY h.x);clear h R hA0 hl;go_enter func67,ntmps67
 go_upto_region 2 with(refine ew λW S=>?_)
 go_loopw [8] (λi wr=>∃k:Nat,k<=l.length/\i=.int .i64 k/\Hid (St w (some D) [M] [⟨w.heap.size,118,1,λ_=>bZ G 0⟩] [] (kM G g D M (dI s (l.take k))) wr)) (λi _=>l.length - (intOf i).toNat)
 case atStart=>exact⟨0,au,rfl,ae S⟩
 case round=>
  clear S;obtain⟨k,hk,rfl,hS⟩:=hrel;by_cases hlt:k<l.length
  . obtain⟨b9,o9,rfl⟩:=hao.o au;obtain⟨q,hq⟩:=cM (l[k]);obtain⟨A,hA⟩:=gq (ah 3 (aN q));have hsub:=ae (fF l hlt (A:=A) (by rw[hq];exact hA));have hq2:l[k]? =some q:=by rw[j4 hlt,hq]
    have C1:=ae λW h=>j8 G D M g (dI s (l.take k)) W h;have C2:=ae λW h=>Bb g.P D M (dI s (l.take k)) q (HO.o q (nf hq2)) W h;rw[az hA,<-DF hq2] at C2;have HA:=ae hA;have S:=hS.o;clear hS hA hq hq2;have HK:=ae hlt
    go_upto_region 4 with(first
   |((with_reducible refine pP ?_);refine Md (HR.o.fr S.fr (.inr rfl) rfl) hlt (DW HA) hsub.o ?_)
   |refine ew λW S=>?_)
    refine bL S cm λW S=>?_;refine bp 0 12 (bZ w.heap.size 0) ?_;refine bp 1 13 (bZ G 0) ?_;refine bp 3 15 (.agg A) ?_;refine mO 2 λK hK=>?_
    go_wp2_with fail
    refine qJ (C1.o _ S.x.at) ?_;refine gM hK ?_;refine mO 4 λK hK=>?_
    go_wp2_with fail
    refine(C2.o _ S.x.at.ft).mono ?_;rintro e W ⟨rfl,hp,hf⟩;replace S:=S.Zt hf (λD e=>by cases e) (λk hk=>.inl hk) (by rw[gz];exact HGP.o.2.1) hp;refine gM hK ?_;refine uy ?_;go_wp2;go_roundw
    case rel=>have:=HK.o;exact⟨k+1,au,by go_num,ae S.pop⟩
    case measure=>have:=HK.o;simp[intOf];omega
  . obtain rfl:k=l.length:=au;have S:=hS.o;rw[wh] at S;go_wp2;refine Pf (Jv rfl _ _ _) rfl ?_;exact⟨rfl,S.x.at,S.fr⟩
section
theorem St.Ow (S:St w0 d l L O X w)(hb:dp w w')(ho:oQ w' w.heap.size c):St w0 d l L O (λB w=>X B w/\rW c.sv c.l B w) w':=
 (S.below hb).yu (fx c.sv c.l) ⟨⟨ar.aV ho.1,λ_ b hb2 hm=>by have h1:=(ho.1.lt b hb2).1;have h2:=S.lt b hm;omega⟩,
  λx hx=>⟨(ho.2 x hx).1,λhn b hb2 hm=>by have h1:=(ho.2 x hx).2 hn b hb2;have h2:=S.lt b hm;omega⟩⟩
theorem St.GI (S:St w0 d l L O X w)(hb:dp w w')(ho:oQ w' w.heap.size c){g:List aq}(hr:dh w' w.heap.size r g):St w0 d l L O (λB w=>(X B w/\rW c.sv c.l B w)/\qC 106 3 r g.length (eo g) B w) w':=
 (S.Ow hb ho).yu (cz 106 3 r _ _ rfl rfl) ⟨ar.aV hr,λ_ b hb2 hm=>by have h1:=(hr.lt b hb2).1;have h2:=S.lt b hm;omega⟩
end
def YW (id:Nat) (q:aq) (x:aZ):aZ:=if x.id=id then {x with root:=q} else x
def oX (id:Nat) (q:aq) (l:List aZ) (k:Nat):List aZ:=(l.take k).map (YW id q)++l.drop k
theorem GJ (id:Nat)(q:aq)(l:List aZ)(k:Nat): (oX id q l k).length=l.length:=by
 grind[oX]
theorem Xm {l:List aZ}(hk:k<l.length): (oX id q l k)[k]? =some l[k]:=by
 unfold oX
 grind
theorem Xn {l:List aZ}(hk:k<l.length): (oX id q l k).set k (YW id q l[k])=oX id q l (k+1):=by
 have h1:k=((l.take k).map (YW id q)).length:=by grind
 unfold oX;rw[EW hk,pt,set_append_right _ _ au,<-h1,Nat.sub_self,U9 hk,E0,Hh];rfl
theorem Ut {l:List aZ}(hk:k<l.length)(h:l[k].id≠id):oX id q l k=oX id q l (k+1):=by
 unfold oX;rw[EW hk,pt,U9 hk,Hh];show _++l[k]::_=_++([YW id q l[k]]++_);rw[show YW id q l[k]=l[k] from bX h];rfl
theorem Uu {l:List aZ}(h:jU l B w):jU (oX id q l k) B w:=by
 intro x hx;unfold oX at hx;rcases jn.1 hx with hx | hx
 . obtain⟨y,hy,rfl⟩:=lY.1 hx;have:=h y (rD hy);unfold YW;split
   . exact this
   omega
 . exact h x (vF hx)
theorem Xo (id:Nat)(q:aq)(n:Nat)(l:List aZ): (⟨n,bA (oX id q l l.length)⟩:cL)=nJ ⟨n,bA l⟩ id q:=by
 unfold oX nJ bA;rw[wh,drop_length,ET,EV,EV];congr 1;refine map_congr_left λx _=>?_;show(YW id q x).tocu=if x.tocu.id=id then _ else _;unfold YW
 grind
theorem BB (h:ct b)(id:Nat)(hq:bt q):ct (nJ b id q):=
 ct.of h.next (by unfold nJ;rw[pr];exact h.fit.1) λs hs=>by
  obtain⟨y,hy,rfl⟩:=lY.1 hs;have:=h.ok y hy;split
  . exact⟨this.1,this.2.1,hq,this.2.2.2⟩
  omega
theorem BC (G D M:Nat)(g:dK)(s:Pl)(ht:ct g.b.t)(hl:g.held.length<=100000)(id:Nat)(q:aq)(hq:bt q)(old:List aq)(hold:cx old)(hol:old.length<=1000)(v:bh)(A:iw)(hA:A=ah 1 (λ_=>Value.pointer (some ⟨G,0,none⟩)))(w:aD)(h:bw w G g D M s)(R:fM w v old):
 Calls prog 81 #[.agg A,.int .u64 id,iy q,v] w λe w'=>sd w w' G D M g (DR id q old (g.gt s)) e:=by
 obtain⟨AQ,hAQ⟩:=gq (ah 3 (aN q));rw[az hAQ];have HAQ:=ae hAQ;have HA:=ae hA;have HR:=ae R;have S:=St.start w (some D) [G,M,g.P] (c8 G g D M s) h.x;have HGP:=ae (kM.IY h.x);have C1:=ae λW (X:bw W G g D M s)=>gh G D M g s ht.fit W X;have hnt:=BB ht id hq;have C2:=ae λ(c:bx) (B:iw) (hB:B=ah 2 (bg c)) (hc:c.t=nJ g.b.t id q) W (R:dN W c) (RL:fM W v old)=>(show Calls prog 144 #[.agg B,.int .u64 id,v] W λe w'=>∃B r,e=.returned (.tuple #[.agg B,r,.int .i64 (iP (nJ g.b.t id q) id old).2.2])/\gF w' W.heap.size B (iP (nJ g.b.t id q) id old).1/\dh w' W.heap.size r (iP (nJ g.b.t id q) id old).2.1/\dp W w' from by rw[<-hc];exact K4 c B hB (by rw[hc];exact hnt.fit) id old v (kL hol nh) W R RL);obtain⟨hkt,hkp,hkl⟩:=ze hnt id old hold;have HK:=ae (show DR id q old (g.gt s)=LL (g.gt s) (iP (nJ g.b.t id q) id old) from rfl);obtain⟨T,hT⟩:=cM (DR id q old (g.gt s));obtain⟨r,hr⟩:=cM (iP (nJ g.b.t id q) id old);rw[hT,hr] at HK;rw[hT];rw[hr] at C2 hkt hkp hkl;obtain⟨b2,gone,c⟩:=r;simp only at C2 hkt hkp hkl;have C3:=ae λr W X (R:fM W r gone)=>vB G D M g s gone hkp (kL hkl (kL hol nh)) r A hA W X R;have C4:=ae λ(c2:bx) (B:iw) (hB:B=ah 2 (bg c2)) (hc:c2.t=b2) W (X:bw W G g D M (dI s gone)) R=>nT G D M g (dI s gone) c2 B hB (by rw[hc];exact hkt.fit) W X R;have C5:=ae λ(c3:bx) (hc:c3.t=b2) W (X:bw W G {g with b:=c3} D M (dI s gone))=>(show yr 57 #[.agg A] W (.int .i64 (DQ {g.gt s with b:=b2,s:=dI s gone})) from by rw[<-hc];exact tj G D M {g with b:=c3} (dI s gone) A hA (show ct c3.t by rw[hc];exact hkt) W X (kL hl nh));have HFIT:=ae ht.fit;clear h R hA hAQ ht hl hq hold hol hnt hkt hkp hkl hT hr;go_enter func81,ntmps81
 go_upto_region 3 with(first|(with_reducible refine jl 14 69 13 S 1 0 (bZ G 0) ?_)|(go_at_call 43;refine JZ S (C1.o _ S.x.at) λW B c1 HB HC _ S=>?_)|((with_reducible refine aG 17 97 16 ?_);obtain⟨cn,cl,cat,ccap⟩:=c1;refine dY S 0 rfl 1 (v:=.slice cat cl.length ccap) rfl qv rfl fB ?_)|refine ew λW S=>?_)
 have hlen:cl.length<=1000000:=by have h1:=HFIT.o.1;rw[<-HC.o] at h1;unfold bx.t at h1;rwa [dC] at h1
 go_loopw [19] (λi wr=>∃k:Nat,k<=cl.length/\i=.int .i64 k/\Hid (St w (some D) [G,M,g.P] [⟨_,99,2,bg ⟨cn,cl,cat,ccap⟩⟩,⟨_,106,3,aN q⟩,⟨_,118,1,λ_=>bZ G 0⟩] [⟨109,11,.slice cat cl.length ccap,cl.length,dR (oX id q cl k)⟩] (λB w=>kM G g D M s B w/\jU cl B w) wr)) (λi _=>cl.length - (intOf i).toNat)
 case atStart=>exact⟨0,au,rfl,ae S⟩
 case round=>
  clear S;obtain⟨k,hk,rfl,hS⟩:=hrel;have S:=hS.o;clear hS;by_cases hlt:k<cl.length
  . obtain⟨gb,rfl⟩: ∃gb,cat=s_ gb 0:=by
     obtain⟨gb,cc,h1⟩:=xb S.o0 (show 0<cl.length by omega);simp only[mA] at h1;exact⟨gb,h1.1⟩
    obtain⟨x,hx⟩:=cM (cl[k]);have hup:k< (oX id q cl k).length:=by rw[GJ];exact hlt
    have hxu: (oX id q cl k)[k]=x:=by
     have h1:=Xm (id:=id) (q:=q) hlt
     grind
    have hcell: (dR (oX id q cl k))[k*11]? =some (.int .u64 x.id):=by
     have h1:=iN (oX id q cl k) hup (A:=ah 11 (dy x)) (by rw[hxu]) 0 au;rw[CI] at h1;rw[h1,aF,bC au];rfl
    have HCELL:=ae hcell;have HLT:=ae hlt;by_cases hid:x.id=id
    . have e1:decide ((x.id:Int)=(id:Int))=true:=ly au;have e2: ((x.id:Int)==(id:Int))=true:=Em.2 au;have e3:decide (x.id=id)=true:=ly hid;have HSET:=ae (show wq (dR (oX id q cl k)) (k*11+7) (ah 3 (aN q)).toList=dR (oX id q cl (k+1)) from by
       rw[<-Xn hlt,hx,show YW id q x= {x with root:=q} from bC hid];exact J1 hup hxu q _ (λi hi=>by unfold dy;rcases i with(_|_|_|_|_|_|_|_|_|_|_|i) <;> first | rfl))
      clear hx hup hxu hcell hid
      go_wp2_with (first
   |(with_reducible first|refine jl 23 97 22 S 0 1 (.slice (s_ gb 0) cl.length ccap) ?_|refine jl 31 97 30 S 0 1 (.slice (s_ gb 0) cl.length ccap) ?_)
   |((with_reducible refine pP ?_);refine BN (v:=.int .u64 x.id) (rZ S.o0 (by simpa using HCELL.o)) ?_)
   |((with_reducible refine aS 106 35 33 ?_);refine sD rfl λK9 hK9=>Wq S 0 rfl rfl (k*11+7) (z:=3) (by have:=HLT.o;show k*11+7+3<=cl.length*11;omega) rfl rfl HAQ.o bd (aE _) λW S2=>hK9 _ _ ?_;rw[show(⟨109,11,.slice (s_ gb 0) cl.length ccap,cl.length,dR (oX id q cl k)⟩:O4).xs=dR (oX id q cl k) from rfl,HSET.o] at S2;clear hK9 S;have S:=S2;clear S2)
   |refine fN ?_)
      go_roundw
      case rel=>have:=HLT.o;exact⟨k+1,au,by go_num,ae S⟩
      case measure=>have:=HLT.o;simp[intOf];omega
    . have e1:decide ((x.id:Int)=(id:Int))=false:=iE au;have e2: ((x.id:Int)==(id:Int))=false:=k'.2 au;have e3:decide (x.id=id)=false:=iE hid;have HSET:=ae (Ut (id:=id) (q:=q) hlt (by rw[hx];exact hid));clear hx hup hxu hcell hid
      go_wp2_with (first
   |(with_reducible refine jl 23 97 22 S 0 1 (.slice (s_ gb 0) cl.length ccap) ?_)
   |((with_reducible refine pP ?_);refine BN (v:=.int .u64 x.id) (rZ S.o0 (by simpa using HCELL.o)) ?_))
      go_roundw
      case rel=>have:=HLT.o;rw[HSET.o] at S;exact⟨k+1,au,by go_num,ae S⟩
      case measure=>have:=HLT.o;simp[intOf];omega
  . obtain rfl:k=cl.length:=au;have HB':=ae (show B=ah 2 (bg ⟨cn,oX id q cl cl.length,cat,ccap⟩) from by rw[HB.o];unfold bg bx.sv;simp only[GJ]);have HC':=ae (show(bx.t ⟨cn,oX id q cl cl.length,cat,ccap⟩)=nJ g.b.t id q from by rw[<-HC.o];exact Xo id q cn cl);have hsl:=λ(W:aD) (X:W.ownsRow w.heap.size 109 11 (.slice cat cl.length ccap) cl.length (dR (oX id q cl cl.length)))=>(show ar W 109 11 (.slice cat (oX id q cl cl.length).length ccap) (oX id q cl cl.length).length (dR (oX id q cl cl.length)) from by rw[GJ];exact ar.aV X);have HSL:=ae hsl;clear hsl
    go_upto_region 9 with(first
   |(go_at_call 144;refine(C2.o _ B HB'.out HC'.out _ ⟨HSL.o _ S.o0,λx hx=>(Uu (B:=bE _ _) S.x.2 x hx).1⟩ (HR.o.fr S.fr (.inr rfl) rfl)).mono ?_;rintro e W ⟨B2,r,rfl,⟨c2,hB2,hc2,ho2⟩,hr,hb⟩;have HB2:=ae hB2;have HC2:=ae hc2;have HF:=ae (aH hr);replace S:=S.GI hb ho2 hr;clear hB2 hc2 ho2 hr;obtain⟨ra,rc,rfl⟩:=HF.o;clear HF)
   |refine fN ?_
   |refine ew λW S=>?_)
    unfold LL at HK;simp only at HK;by_cases g2:c=0
    case neg=>
     have g3: (c != 0)=true:=lh.2 g2;rw[bC g2] at HK;clear g2
     go_wp2_with (go_at_call 49;refine(mI c _).mono ?_;rintro e W ⟨rfl,rfl⟩;)
     go_ret;rw[HK.o];exact⟨g,s,rfl,rfl,S.x.1.1.1.at,rfl,λh=>h,S.fr⟩
    subst g2;rw[bX (show ¬((0:Int)≠0) from λh=>h rfl)] at HK
    go_wp2_with (first
   |(with_reducible first|refine jl 53 69 52 S 2 0 (bZ G 0) ?_)
   |(go_at_call 67;refine(C3.o _ _ S.x.1.1.1.at S.x.2.1).mono ?_;rintro e W ⟨rfl,hg,hf⟩;replace S:=S.call (X':=λB w=>kM G g D M (dI s gone) B w/\rW c2.sv c2.l B w) hf (λD e=>e) (λk hk=>.inl (by rw[gz.1 hk];simp)) ((c8 G g D M _).still (fx c2.sv c2.l)) (λB h=>⟨h.1.1.1.pl hf (by rw[gz];exact HGP.o.2.1) hg.ft,(fx _ _).fr h.1.2 hf⟩);clear hg)
   |(go_at_call 55;refine(C4.o c2 B2 HB2.o HC2.o _ S.x.1.at S.x.2.sl).mono ?_;rintro e W ⟨c3,rfl,hc,hg,ho,hf⟩;have HC3:=ae (hc.trans HC2.o);replace S:=(S.vP (λB w h=>h.1) (c8 G g D M _)).QT hg ho hf (.inl fh);clear hc hg)
   |(go_at_call 57;refine je S (C5.o c3 HC3.o _ S.x.at) λW S=>?_)
   |refine fN ?_)
    go_ret;rw[HK.o];exact⟨{g with b:=c3},dI s gone,rfl,rfl,S.x.at,by unfold dK.gt;rw[<-HC3.o],λh=>h,S.fr⟩
theorem Kh (q:Nat)(ao:Option Addr)(n c:Nat)(W:aD):Sem.run prog (Instr.field 99 (.agg #[.int .u64 (q:Int),.slice ao n c]) 1) W=.ok (.slice ao n c) W:=by
 rfl
theorem dN.fr {d:Option Nat} {l:aK} {w w':aD} {b:bx} (h:dN w b) (f:Fr d l w w'):dN w' b:=
 ⟨ar.fr h.1 f (.inr rfl) rfl,λx hx=>ar.fr (h.2 x hx) f (.inr rfl) rfl⟩
theorem zj (G D M:Nat)(g:dK)(s:Pl)(ht:ct g.b.t)(b:bx)(B:iw)(hB:B=ah 2 (bg b))(hbt:rY b.t)(y:aZ)(A9:iw)(hA9:A9=ah 11 (dy y))(hy:bt y.root)(A:iw)(hA:A=ah 1 (λ_=>.pointer (some ⟨G,0,none⟩)))(w:aD)(h:bw w G g D M s)(R:dN w b):
 Calls prog 65 #[.agg A,.agg B,.agg A9] w λe w'=>sd w w' G D M g (Cs b.t y.tocu (g.gt s)) e:=by
 have HA:=ae hA;have HB:=ae hB;have HA9:=ae hA9;have HR:=ae R;obtain⟨AQ,hAQ⟩:=gq (ah 3 (aN y.root));have HAQ:=ae hAQ;have S:=St.start w (some D) [G,M,g.P] (c8 G g D M s) h.x;have HGP:=ae (kM.IY h.x);have CP:=ae λW (X:bw W G g D M s)=>j8 G D M g s W X;have C2:=ae λW (X:bw W G g D M s)=>gh G D M g s ht.fit W X;obtain⟨fl,hfl⟩:=cM (iO g.b.t.bO y.id);have C3:=ae λ(m:List aZ) (v:bh) (hm:bA m=g.b.t.bO) W (R:cQ W v m)=>(show yr 114 #[v,.int .u64 y.id] W (.int .u64 fl) from by rw[<-hfl,<-hm];exact x8 m v y.id (by have h1:=ht.fit.1;rw[<-hm,dC] at h1;exact h1) W R);have C4:=ae λW X=>NU g.P D M s y.root hy fl W X;obtain⟨hgp,hgl,-⟩:=I2 (s:=s) h.ft.dev.1.nw hy fl;have HK:=ae (show Cs b.t y.tocu (g.gt s)=EH b.t (g.gt s) (iK s y.root fl) from by rw[<-hfl];rfl);obtain⟨T,hT⟩:=cM (Cs b.t y.tocu (g.gt s));obtain⟨r,hr⟩:=cM (iK s y.root fl);rw[hT,hr] at HK;rw[hT];rw[az hAQ,hr] at C4;rw[hr] at hgp hgl;obtain⟨s1,gone,c⟩:=r;simp only at C4 hgp hgl;unfold EH at HK;simp only at HK;have C5:=ae λr W X (R:fM W r gone)=>vB G D M g s1 gone hgp (kL hgl nh) r A hA W X R;have C6:=ae λW (X:bw W G g D M (dI s1 gone)) R=>nT G D M g (dI s1 gone) b B hB hbt W X R;clear h R hA hB hA9 hAQ ht hbt hy hfl hgp hgl hT hr;go_enter func65,ntmps65
 go_upto_region 1 with(first|((with_reducible refine gT 3 118 0 ?_);refine rQ S rfl HA.o rfl λW1 S=>?_)|((with_reducible refine gT 4 99 1 ?_);refine rQ S rfl HB.o rfl λW2 S=>?_)|refine ew λW S=>?_)
 refine bf S cm [⟨W2.heap.size,109,11,dy y⟩,⟨W1.heap.size,99,2,bg b⟩,⟨w.heap.size,118,1,λ_=>bZ G 0⟩] L9 λW S=>?_;refine bp 0 10 (bZ w.heap.size 0) ?_;refine bp 1 11 (bZ G 0) ?_;refine bp 3 13 (bZ W2.heap.size 7) ?_;refine gY 4 14 (.agg AQ) rfl (Wz (λw h=>h.row 0 rfl) (o:=7) (m:=3) rfl (aN y.root) (show 7+3<=11 by decide) (rz y) HAQ.o bd) ?_;refine bp 5 15 (bZ w.heap.size 0) ?_;refine bp 6 16 (bZ G 0) ?_;refine bp 9 19 (bZ W2.heap.size 0) ?_;refine bp 10 20 (.int .u64 y.id) ?_;refine mO 2 λK hK=>?_
 go_wp2_with fail
 refine qJ (CP.o _ S.x.at) ?_;refine gM hK ?_;refine mO 7 λK hK=>?_
 go_wp2_with fail
 refine(C2.o _ S.x.at).mono ?_;rintro e W ⟨B1,rfl,⟨⟨cn,cl,cat,ccap⟩,rfl,hc,ho⟩,hb⟩;have HC:=ae hc;replace S:=S.bB hb ho;clear hc;rw[show ah 2 (bg ⟨cn,cl,cat,ccap⟩)=#[.int .u64 cn,.slice cat cl.length ccap] from rfl];refine gM hK ?_;refine gY 8 18 (.slice cat cl.length ccap) rfl (Or.inl ⟨cm,λw hw=>by have hfld:=Kh cn cat cl.length ccap w;go_simp⟩) ?_;refine mO 11 λK hK=>?_
 go_wp2_with fail
 refine je S (C3.o cl _ (iS cL.bO HC.o) _ ⟨S.q0,λx hx=>(S.x.2 x hx).1⟩) λW S=>?_;refine gM hK ?_;refine mO 12 λK hK=>?_
 go_wp2_with fail
 refine(C4.o _ S.x.1.at.ft).mono ?_;rintro e W ⟨r,rfl,ho,hp,hf⟩;have HF:=ae (aH ho);replace S:=S.pO (X':=kM G g D M s1) hf (λD e=>e) fh (c8 G g D M s1) (λB h=>h.1.pl hf fh hp) ho rfl rfl;obtain⟨ra,rc,rfl⟩:=HF.o;refine gM hK ?_;refine bp 13 9 _ ?_;refine bp 14 23 (.slice ra gone.length rc) ?_;refine bp 15 24 (.int .i64 c) ?_;refine bp 16 7 _ ?_;refine bp 17 8 _ ?_;refine uy ?_;by_cases g2:c=0
 case neg=>
  have g3: (c != 0)=true:=lh.2 g2;rw[bC g2] at HK;clear g2
  go_wp2_with (go_at_call 49;refine(mI c _).mono ?_;rintro e W ⟨rfl,rfl⟩;)
  go_ret;rw[HK.o];exact⟨g,s1,rfl,rfl,S.x.at,rfl,id,S.fr⟩
 subst g2;rw[bX (show ¬((0:Int)≠0) from λh=>h rfl)] at HK
 go_wp2_with (first|(go_at_call 67;refine(C5.o _ _ S.x.at S.q0).mono ?_;rintro e W ⟨rfl,hg,hf⟩;replace S:=S.call (X':=kM G g D M (dI s1 gone)) hf (λD e=>e) (λk hk=>.inl (by rw[gz.1 hk];simp)) (c8 G g D M _) (λB h=>h.pl hf (by rw[gz];exact HGP.o.2.1) hg.ft);clear hg)|(go_at_call 55;refine(C6.o _ S.x.at (dN.fr HR.o S.fr)).mono ?_;rintro e W ⟨c3,rfl,hc,hg,ho,hf⟩;have HC3:=ae hc;replace S:=S.QT hg ho hf (.inl fh);clear hc hg)|refine fN ?_)
 go_ret;rw[HK.o];exact⟨{g with b:=c3},dI s1 gone,rfl,rfl,S.x.at,by unfold dK.gt;rw[<-HC3.o],id,S.fr⟩
abbrev yp:=lf×(Nat×(Nat×lf))
def BD (i:yp):Nat->bh:=λj=>if j=0 then .string i.1 else if j=1 then .int .i64 i.2.1 else if j=2 then .int .i64 i.2.2.1 else .string i.2.2.2
theorem yj (i:yp): ∀j,(BD i j).oneCell'=true:=by
 intro j;unfold BD;split
 . rfl
 split
 . rfl
 split <;> rfl
instance in1942d (i:yp):OF (BD i):=⟨yj i⟩
def Zu (i:yp):List bh:=(ah 4 (BD i)).toList
def zk (l:List yp):List bh:=l.flatMap Zu
def sh (l:List cu) (s:cu):yp:=(uB l s.id,(s.blocks,(s.dead.length,if s.snap=true then ov else uB l (qF l s.id).2)))
def tQ (x:GT):List yp:=x.b.bO.map (sh x.b.bO)
theorem GK (l:List yp)(i:yp):zk (l++[i])=zk l++(ah 4 (BD i)).toList:=by
 grind[zk,Zu]
theorem Xp: (#[.string ⟨#[]⟩,.int .i64 0,.int .i64 0,.string ⟨#[]⟩]:iw)=ah 4 (BD (ov,(0,(0,ov)))):=rfl
instance in5b630 :ZR 52 4 (BD (ov,(0,(0,ov)))):=⟨_,zeroValue52,Xp⟩
theorem aaX:fu prog 52 4:=⟨⟨_,underlying52,rfl⟩,cm⟩
instance in00884 :td 52 4:=⟨aaX⟩
theorem aao: (prog.info? 52).map (λi=>(i.zero,i.size,i.bytes))=some (some (.agg #[.string ⟨#[]⟩,.int .i64 0,.int .i64 0,.string ⟨#[]⟩]),4,48):=cm
theorem Ni:qj prog 24 52 4 48:=⟨underlying24,_,aao,rfl,au⟩
theorem LM (K D G M:Nat)(g:dK)(s:Pl)(ht:ct g.b.t)(w:aD)(h:nR w K G g D M s):
 Calls prog 12 #[.pointer (some ⟨K,0,none⟩)] w λe w'=>∃r,e=.returned r/\w'.ownsRow w.heap.size 52 4 r (tQ (g.gt s)).length (zk (tQ (g.gt s)))/\dp w w':=by
 have H0:=ae h;have S:=ug w;have C1:=ae λW (hb:dp w W)=>gh G D M g s ht.fit W (h.A7.below hb);have HFT:=ae ht;obtain⟨T,HT0⟩:=qI (tQ (g.gt s));rw[HT0.o];clear h ht;go_enter func12,ntmps12
 go_upto_region 4 with(first|((with_reducible refine pP ?_);refine BN (v:=bZ G 0) (ag.cell (ag.below H0.o.row S.b) (i:=0) au) ?_)|(go_at_call 43;refine(C1.o _ S.b).mono ?_;rintro e W ⟨B,rfl,⟨⟨cn,cl,cat,ccap⟩,rfl,hc,ho⟩,hb⟩;have HC:=ae hc;replace S:=S.Ow hb ho;clear hb hc;rw[show ah 2 (bg ⟨cn,cl,cat,ccap⟩)=#[.int .u64 cn,.slice cat cl.length ccap] from rfl];have hfld:=λW=>Kh cn cat cl.length ccap W))
 have HAO:Hid (0<cl.length->∃b o,cat=s_ b o):=ae λhn=>by
  obtain⟨ao,cap,h1,-,h3⟩:=aR S.x.2.1.1;simp only[bx.sv,mA] at h1;obtain⟨b,o,h4⟩:=h3 hn;exact⟨b,o,h1.1.trans h4⟩
 have hsets:g.b.t.bO=bA cl:=by rw[<-HC.o];rfl
 have HL:=ae (show T=(bA cl).map (sh (bA cl)) from by rw[<-HT0.o];unfold tQ;rw[show(g.gt s).b=g.b.t from rfl,hsets]);have hlen:cl.length<=1000000:=by have h1:=HFT.o.fit.1;rw[hsets,dC] at h1;exact h1
 have hfew:lS cl:=by have h1:=HFT.o.fit.2;rw[hsets] at h1;exact h1
 have C2:=ae λid W R=>Wm cl (.slice cat cl.length ccap) id hlen hfew W R;have C3:=ae λid W R=>FX cl (.slice cat cl.length ccap) id hlen W R;replace S:=S.yK 52 4 rfl rfl;change St w none [] [] _ (λB w=>True/\rW (.slice cat cl.length ccap) cl B w) W at S;have HS:=ae S;clear hfew hsets S hfld
 go_loopw [4,16] (λlv kv wr=>∃(k:Nat) (ao:Option Addr) (c:Nat),k<=cl.length/\kv=.int .i64 k/\lv=.slice ao k c/\Hid (∃L,St w none [] L [⟨52,4,.slice ao k c,k,zk (((bA cl).take k).map (sh (bA cl)))⟩] (λB w=>True/\rW (.slice cat cl.length ccap) cl B w) wr)) (λ_ kv _=>cl.length - (intOf kv).toNat)
 case atStart=>exact⟨0,none,0,au,rfl,rfl,ae ⟨_,HS.o⟩⟩
 case round=>
  clear HS;obtain⟨k,ao,c,hk,rfl,rfl,hS⟩:=hrel;obtain⟨L,S⟩:=hS.o;clear hS;by_cases hlt:k<cl.length
  . obtain⟨bb,oo,rfl⟩:=HAO.o au;obtain⟨x,hx⟩:=cM (cl[k]);have hx2:cl[k]? =some x:=by rw[j4 hlt,hx]
    have HX:=ae hx2;have HLT:=ae hlt;have HT:=ae (show((bA cl).take (k+1)).map (sh (bA cl))=((bA cl).take k).map (sh (bA cl))++[sh (bA cl) x.tocu] from by
     rw[EW (by rw[dC];exact hlt),pt];congr 1;have h9: (bA cl)[k]? =some x.tocu:=by rw[jH,hx2];rfl
     rw[j4 (by rw[dC];exact hlt)] at h9;rw[El h9];rfl)
    obtain⟨nm,hnm⟩:=cM (uB (bA cl) x.id);have C4:=ae (C2.o x.id);rw[hnm] at C4;obtain⟨og,hog⟩:=cM ((qF (bA cl) x.id).2);have C5:=ae (C3.o x.id);rw[hog] at C5;obtain⟨nm2,hnm2⟩:=cM (uB (bA cl) og);have C6:=ae (C2.o og);rw[hnm2] at C6;obtain⟨sp,HSP⟩:=qI x.snap;have HI:=ae (show sh (bA cl) x.tocu=(nm,(x.blocks,(x.dead.length,if sp=true then ov else nm2))) from by
     unfold sh;rw[show x.tocu.id=x.id from rfl,hnm,hog,hnm2,<-HSP.o])
    obtain⟨A,HA⟩:=BU (ah 4 (BD (nm,(x.blocks,(x.dead.length,ov)))));obtain⟨A2,HA2⟩:=BU (ah 4 (BD (nm,(x.blocks,(x.dead.length,nm2)))));clear hx hx2 hnm hog hnm2
    go_upto_region 7 with(fail)
    refine zP S cm [] (by intro r hr;cases hr) λW S=>?_;refine bp 0 22 _ ?_;refine bp 1 23 _ ?_;refine bp 2 24 (bZ bb (oo+k*11)) ?_;refine bp 3 25 (bZ bb (oo+k*11)) ?_;refine gY 4 26 (.int .u64 x.id) rfl (bP (λw h=>by obtain⟨_,_,S,_⟩:=h;exact(S.x.2.sl.at HX.o).c0) rfl bF) ?_;refine bp 6 28 _ ?_;refine bp 7 29 (bZ bb (oo+k*11)) ?_;refine bp 8 30 (bZ bb (oo+k*11+6)) ?_;refine gY 9 31 (.int .i64 x.blocks) rfl (bP (λw h=>by obtain⟨_,_,S,_⟩:=h;exact(S.x.2.sl.at HX.o).c6) rfl kX) ?_;refine bp 10 32 _ ?_;refine bp 11 33 (bZ bb (oo+k*11)) ?_;refine bp 12 34 (bZ bb (oo+k*11+10)) ?_;refine gY 13 35 (.slice x.bI x.dead.length x.cap) rfl (bP (λw h=>by obtain⟨_,_,S,_⟩:=h;exact(S.x.2.sl.at HX.o).Zo) rfl gx) ?_;refine bp 14 36 (.int .i64 x.dead.length) ?_
    repeat' first|refine Zf ?_|refine nv_ 15 37 (.agg A) rfl (pf rfl (by rw[HA.o];kernel_rfl)) ?_|refine JV 5 16 (λK hK=>?_) λK hK=>?_|refine tF 5 λK hK=>?_|refine tF 17 λK hK=>?_|refine tF 16 λK hK=>?_|(refine bG S zeroValue52 Xp rfl λE7 W S=>?_;refine gM hK ?_)|(go_wp2_with fail;refine je S (C4.o _ S.x.2.sl) λW S=>?_;refine gM hK ?_)|(refine dL S 0 rfl rfl rfl HA.o aaX (yj _) λW S=>?_;refine gM hK ?_)
    all_goals (
     refine ae ?_;have hsn:=λ(W:aD) (X:rW (.slice (s_ bb oo) cl.length ccap) cl [] W)=>kO;clear hsn;cases sp with
     | true=>
      go_wp2_with (first
   |((with_reducible refine aG 41 4 40 ?_);refine bM (v:=.bool true) (by rw[(S.x.2.sl.at HX.o).c2,HSP.o]) rfl gU ?_)
   |((with_reducible refine bN 55 52 54 ?_);refine lZ S 0 rfl 0 rfl rfl rfl rfl Ni (yj _) JW BM λg9 c9 W S=>?_)
   |refine fN ?_
   |refine ew λW S=>?_)
      rw[<-GK] at S;go_roundw
      case rel=>
       have:=HLT.o;have hI:sh (bA cl) x.tocu=(nm,(x.blocks,(x.dead.length,ov))):=HI.o;rw[<-hI,<-HT.o] at S;exact⟨_,_,_,_,_,⟨k+1,au,rfl,_,_,rfl,ae ⟨_,by simpa using S⟩⟩,rfl,rfl,rfl,rfl,rfl⟩
      case measure=>have:=HLT.o;simp[intOf];omega
     | false=>
      go_wp2_with (first
   |((with_reducible refine aG 41 4 40 ?_);refine bM (v:=.bool false) (by rw[(S.x.2.sl.at HX.o).c2,HSP.o]) rfl gU ?_)
   |((with_reducible refine pP ?_);refine BN (S.x.2.sl.at HX.o).c0 ?_)
   |(go_at_call 45;refine je S (C5.o _ S.x.2.sl) λW S=>?_)
   |(go_at_call 44;refine je S (C6.o _ S.x.2.sl) λW S=>?_)
   |((with_reducible refine aS 9 51 50 ?_);refine gu S 0 rfl 3 (BD (nm,(x.blocks,(x.dead.length,nm2)))) (λj hj=>by rcases j with(_|_|_|_|j) <;> first | rfl |(exfalso;have hj:j+4<4:=hj;omega)) qv rfl rfl rfl pY λW S=>?_)
   |((with_reducible refine bN 55 52 54 ?_);refine lZ S 0 rfl 0 rfl rfl rfl rfl Ni (yj _) JW BM λg9 c9 W S=>?_)
   |refine fN ?_
   |refine ew λW S=>?_)
      rw[<-GK] at S;go_roundw
      case rel=>
       have:=HLT.o;have hI:sh (bA cl) x.tocu=(nm,(x.blocks,(x.dead.length,nm2))):=HI.o;rw[<-hI,<-HT.o] at S;exact⟨_,_,_,_,_,⟨k+1,au,rfl,_,_,rfl,ae ⟨_,by simpa using S⟩⟩,rfl,rfl,rfl,rfl,rfl⟩
      case measure=>have:=HLT.o;simp[intOf];omega)
  . obtain rfl:k=cl.length:=au;have HE:=ae (show((bA cl).take cl.length).map (sh (bA cl))=T from by rw[<-dC,wh,HL.o]);go_wp2;go_ret;have h9:=S.o0;rw[HE.o] at h9;exact⟨_,rfl,by rw[show T.length=cl.length from by rw[HL.o,pr,dC]];exact h9,S.b⟩
def kb (k:Int) (i:Nat):Bool:=
 if i=0 then decide (0<=k/\k<=8) else if i=1 then decide (k=5) else if i=2 then decide ((0<=k/\k<=3)∨k=10∨k=12) else if i=3 then decide (k=1∨k=12) else decide (k=11)
def kindOk (k:Int):Bool:=decide (0<=k/\k<=12)
def jV (p:Nat->Bool):Nat->bh:=λi=>.bool (p i)
theorem Ct (p:Nat->Bool): ∀i,(jV p i).oneCell'=true:=λ_=>rfl
instance incb23c (p:Nat->Bool):OF (jV p):=⟨Ct p⟩
theorem CH: (#[.bool false,.bool false,.bool false,.bool false,.bool false]:iw)=ah 5 (jV λ_=>false):=rfl
instance in9169f :ZR 272 5 (jV λ_=>false):=⟨_,zeroValue272,CH⟩
theorem UM:fu prog 272 5:=⟨⟨_,underlying272,rfl⟩,cm⟩
instance in70151 :td 272 5:=⟨UM⟩
theorem Wc:prog.built 272 []=some #[.bool false,.bool false,.bool false,.bool false,.bool false]:=cm
section
variable {x:Nat}
theorem tR (S:St w0 d l L O X w)(k:Nat){b:Nat}{t:dD}{q:Nat->Bool}(hk:L[k]? =some ⟨b,t,n,jV q⟩)(i:Nat)(hi:i<n)(hx:a.eval (.tmp x)=.pointer (some ⟨b,i,none⟩))(ht:fZ P ty)(h: ∀W,St w0 d l (L.set k ⟨b,t,n,jV λj=>if j=i then true else q j⟩) O X W->wpList P ops Q rest (a.put none undef) W):wpList P ops Q (⟨none,.store ty (.tmp x) (.const (.bool true)),t2,p,af,none⟩::rest) a w:=
 gu S k hk i (jV λj=>if j=i then true else q j) (λj hj=>by unfold jV;simp only;split <;> rfl) hi hx rfl rfl ht h
end
theorem Ox (k:Int)(w:aD):yr 181 #[.int .i64 k] w (.tuple #[.agg (ah 5 (jV (kb k))),.bool (kindOk k)]):=by
 have S:=ug w;by_cases h:0<=k/\k<=12
 . have hk:k=0∨k=1∨k=2∨k=3∨k=4∨k=5∨k=6∨k=7∨k=8∨k=9∨k=10∨k=11∨k=12:=au;clear h;rcases hk with rfl | rfl | rfl | rfl | rfl | rfl | rfl | rfl | rfl | rfl | rfl | rfl | rfl
   all_goals (
    go_enter func181,ntmps181
    go_wp2_with (first
   |((with_reducible refine fE 4 27 ?_);refine tR S 0 rfl 3 qv rfl gU λW S=>?_)
   |((with_reducible refine fE 4 28 ?_);refine tR S 0 rfl 0 qv rfl gU λW S=>?_)
   |((with_reducible refine fE 4 29 ?_);refine tR S 0 rfl 2 qv rfl gU λW S=>?_)
   |((with_reducible refine fE 4 30 ?_);refine tR S 0 rfl 0 qv rfl gU λW S=>?_)
   |((with_reducible refine fE 4 31 ?_);refine tR S 0 rfl 0 qv rfl gU λW S=>?_)
   |((with_reducible refine fE 4 32 ?_);refine tR S 0 rfl 1 qv rfl gU λW S=>?_)
   |((with_reducible refine fE 4 33 ?_);refine tR S 0 rfl 2 qv rfl gU λW S=>?_)
   |((with_reducible refine fE 4 34 ?_);refine tR S 0 rfl 4 qv rfl gU λW S=>?_)
   |((with_reducible refine fE 4 35 ?_);refine tR S 0 rfl 2 qv rfl gU λW S=>?_)
   |((with_reducible refine fE 4 36 ?_);refine tR S 0 rfl 3 qv rfl gU λW S=>?_)
   |((with_reducible refine aJ ?_);go_must (refine bj S 1 rfl rfl rfl UM rfl ?_))
   |refine fN ?_
   |refine ew λW S=>?_)
    exact⟨⟨cm,by decide⟩,S.b⟩)
 . have hko:kindOk k=false:=iE h;have hpk:ah 5 (jV (kb k))=ah 5 (jV λ_=>false):=sN λi hi=>by
    unfold jV kb;congr 1;split
    . exact iE (λe=>h au)
    split
    . exact iE (λe=>h au)
    split
    . exact iE (λe=>h au)
    split
    . exact iE (λe=>h au)
    . exact iE (λe=>h au)
   rw[hko,hpk];have n0: ¬k=0:=λe=>h au;have a0: (k==0)=false:=k'.2 n0;have b0:decide (k=0)=false:=iE n0;have n1: ¬k=1:=λe=>h au;have a1: (k==1)=false:=k'.2 n1;have b1:decide (k=1)=false:=iE n1;have n2: ¬k=2:=λe=>h au;have a2: (k==2)=false:=k'.2 n2;have b2:decide (k=2)=false:=iE n2;have n3: ¬k=3:=λe=>h au;have a3: (k==3)=false:=k'.2 n3;have b3:decide (k=3)=false:=iE n3;have n4: ¬k=4:=λe=>h au;have a4: (k==4)=false:=k'.2 n4;have b4:decide (k=4)=false:=iE n4;have n5: ¬k=5:=λe=>h au;have a5: (k==5)=false:=k'.2 n5;have b5:decide (k=5)=false:=iE n5;have n6: ¬k=6:=λe=>h au;have a6: (k==6)=false:=k'.2 n6;have b6:decide (k=6)=false:=iE n6;have n7: ¬k=7:=λe=>h au;have a7: (k==7)=false:=k'.2 n7;have b7:decide (k=7)=false:=iE n7;have n8: ¬k=8:=λe=>h au;have a8: (k==8)=false:=k'.2 n8;have b8:decide (k=8)=false:=iE n8;have n9: ¬k=9:=λe=>h au;have a9: (k==9)=false:=k'.2 n9;have b9:decide (k=9)=false:=iE n9;have n10: ¬k=10:=λe=>h au;have a10: (k==10)=false:=k'.2 n10;have b10:decide (k=10)=false:=iE n10;have n11: ¬k=11:=λe=>h au;have a11: (k==11)=false:=k'.2 n11;have b11:decide (k=11)=false:=iE n11;have n12: ¬k=12:=λe=>h au;have a12: (k==12)=false:=k'.2 n12;have b12:decide (k=12)=false:=iE n12;clear h hko hpk;go_enter func181,ntmps181
   go_wp2_with (first|(refine o7 ?_;exact⟨rfl,S.b⟩)|refine fN ?_|refine ew λW S=>?_)
theorem Zv (h:LetsOut (λe a w=>e=Exit.normal/\R a w)):False:=by
 obtain⟨a,w,h1,_⟩:=h;cases h1
theorem Uv {o:Oper}{K':Act->aD->Prop}(hk: ∀a w,K a w->K' a w)(h:o.wp P a w K (λe a w=>e=Exit.normal/\R a w)):o.wp P a w K' Q:=by
 unfold Oper.wp at h ⊢;generalize (execOp a.eval o).run P w=r at h ⊢;cases r with
 | ok n w'=>
  cases n with
  | value v=>exact hk _ _ h
  | skip=>exact hk _ _ h
  | defer d=>exact hk _ _ h
  | enter f args=>
   refine Calls.mono (show Calls P f args w' _ from h) λe w'' he=>?_;cases e with
   | returned v=>grind
   | panicked c=>grind
   | outgrown=>exact(Zv he).elim
  | row row args=>exact Rows.mono (show Rows P row args w' _ from h) λv w'' hv=>hk _ _ hv
  | _=>exact(show False from h).elim
 | halt x w'=>
  cases x with
  | panic v=>exact absurd h.1 fh
  | _=>exact(show False from h).elim
theorem gK {P:pw} {ops:Array Oper} {Q:Exit->Act->aD->Prop} (R:Act->aD->Prop): ∀(n:Nat) (l:List Oper) (a:Act) (w:aD),wpList P ops (λe a w=>e=Exit.normal/\R a w) (l.take n) a w->(∀a w,R a w->wpList P ops Q (l.drop n) a w)->wpList P ops Q l a w
 | 0,l,a,w,h,h2=>h2 a w h.2
 | n+1,[],a,w,h,h2=>h2 a w h.2
 | n+1,o::rest,a,w,h,h2=>by
  rw[take_succ_cons] at h;rw[drop_succ_cons] at h2;unfold wpList at h ⊢;split at h
  . next hw=>
    rw[bC hw];rcases h with h | h
    . exact .inl (Uv (λa w hh=>gK R n rest a w hh h2) h)
    . exact(Zv h.2).elim
  . next hw=>
    rw[bX hw];exact gK R n rest _ w h h2
structure xH where
 kind:Int
 name:lf
 BE:lf
 n:Int
 data:aK
 bS:List Bool
structure qw extends xH where
 da:Option Addr
 dc:Nat
 ka:Option Addr
 kc:Nat
def O6 (o:qw):Nat->bh:=λi=>if i=0 then .int .i64 o.kind else if i=1 then .string o.name else if i=2 then .string o.BE else if i=3 then .int .i64 o.n else if i=4 then .slice o.da o.data.length o.dc else .slice o.ka o.bS.length o.kc
theorem ui (o:qw): ∀i,(O6 o i).oneCell'=true:=by
 intro i;unfold O6;split
 . rfl
 split
 . rfl
 split
 . rfl
 split
 . rfl
 split <;> rfl
instance inea6f6 (o:qw):OF (O6 o):=⟨ui o⟩
def tS (w:aD) (b o:Nat) (x:qw):Prop:=∀k,k<6->w.cell? ⟨b,o+k,none⟩=some (O6 x k)
section
variable {b:Nat}{x:qw}
theorem tS.c0 (h:tS w b o x):w.cell? ⟨b,o,none⟩=some (.int .i64 x.kind):=h 0 au
theorem tS.c1 (h:tS w b o x):w.cell? ⟨b,o+1,none⟩=some (.string x.name):=h 1 au
theorem tS.c2 (h:tS w b o x):w.cell? ⟨b,o+2,none⟩=some (.string x.BE):=h 2 au
theorem tS.c3 (h:tS w b o x):w.cell? ⟨b,o+3,none⟩=some (.int .i64 x.n):=h 3 au
theorem tS.c4 (h:tS w b o x):w.cell? ⟨b,o+4,none⟩=some (.slice x.da x.data.length x.dc):=h 4 au
theorem tS.c5 (h:tS w b o x):w.cell? ⟨b,o+5,none⟩=some (.slice x.ka x.bS.length x.kc):=h 5 au
theorem tS.below (h:tS w b o x)(hb:dp w w'):tS w' b o x:=λk hk=>(hb.cell (p:=⟨b,_,none⟩) (vG (h k hk))).trans (h k hk)
end
def kJ (o:xH):Bool:=
 kindOk o.kind&& ((kb o.kind 0||decide (o.name=ov))&& (decide (o.name.size<=60)&& ((kb o.kind 1||decide (o.BE=ov))&& (decide (o.BE.size<=60)&& ((kb o.kind 2||decide (o.n=0))&& (decide (-1<=o.n)&& (decide (o.n<=65534)&& ((kb o.kind 3||decide (o.data.length=0))&& (decide (o.data.length<=129)&& ((kb o.kind 4||decide (o.bS.length=0))&&decide (o.bS.length<=64)))))))))))
def oY (v:Nat->bh):iw:=#[v 0,v 1,v 2,v 3,v 4,v 5,v 6,v 7,v 8,v 9,v 10,v 11,v 12,v 13,v 14,v 15,v 16,v 17,v 18,v 19,v 20,v 21,v 22,v 23,v 24,v 25,v 26,v 27,v 28,v 29,v 30,v 31,v 32,v 33,v 34,v 35,v 36,v 37,v 38,v 39,v 40,v 41,v 42,v 43,v 44,v 45,v 46,v 47,v 48,v 49,v 50,v 51,v 52,v 53,v 54,v 55,v 56,v 57,v 58,v 59,v 60,v 61,v 62,v 63,v 64,v 65,v 66,v 67,v 68,v 69,v 70,v 71,v 72,v 73,v 74,v 75,v 76,v 77,v 78,v 79,v 80,v 81,v 82,v 83,v 84,v 85,v 86,v 87,v 88,v 89,v 90,v 91,v 92,v 93,v 94,v 95,v 96,v 97,v 98,v 99,v 100,v 101,v 102,v 103,v 104,v 105,v 106,v 107,v 108,v 109,v 110,v 111,v 112,v 113,v 114,v 115,v 116]
theorem Uw (v:Nat->bh):oY v=((range 117).map v).toArray:=by rfl
theorem Ux (A:iw)(h:A.size=117):A=oY (λi=>A.getD i undef):=by
 rw[Uw];refine Array.ext (by simp[h]) λi h1 h2=>?_;simp[h1]
def jP (b o E p:Nat) (c:Bool) (W:aD) (a:Act) (W':aD):Prop:=
 W'=W/\∃v:Nat->bh,a=⟨oY v,[]⟩/\v 0=.pointer (some ⟨b,o,none⟩)/\v 3=.pointer (some ⟨E,0,none⟩)/\v p=.bool c
theorem jP.mk' {b E p:Nat}{c:Bool}(A:iw)(h:A.size=117)(h0:A.getD 0 undef=.pointer (some ⟨b,o,none⟩))(h3:A.getD 3 undef=.pointer (some ⟨E,0,none⟩))(hp:A.getD p undef=.bool c):jP b o E p c W ⟨A,[]⟩ W:=
 ⟨rfl,λi=>A.getD i undef,by rw[<-Ux A h],h0,h3,hp⟩
theorem Zw:fZ prog 39:=⟨⟨_,underlying39,rfl⟩,cm⟩
instance in197e3 :qD 39:=⟨Zw⟩
theorem Oy (x:qw)(b o:Nat)(w:aD)(h:tS w b o x):
 yr 137 #[.pointer (some ⟨b,o,none⟩)] w (.bool (kJ x.toxH)):=by
 have HX:=ae h;have S:=ug w;obtain⟨A,HP⟩:=BU (ah 5 (jV (kb x.kind)));have C1:=ae λW=>Ox x.kind W;rw[<-HP.o] at C1;obtain⟨q0,h0⟩:=cM (kb x.kind 0);have HQ0:Hid (jV (kb x.kind) 0=.bool q0):=ae (by unfold jV;rw[h0]);have HR0:=ae h0;obtain⟨q1,HR1⟩:=qI (kb x.kind 1);have HQ1:Hid (jV (kb x.kind) 1=.bool q1):=ae (by unfold jV;rw[HR1.o]);obtain⟨q2,HR2⟩:=qI (kb x.kind 2);have HQ2:Hid (jV (kb x.kind) 2=.bool q2):=ae (by unfold jV;rw[HR2.o]);obtain⟨q3,HR3⟩:=qI (kb x.kind 3);have HQ3:Hid (jV (kb x.kind) 3=.bool q3):=ae (by unfold jV;rw[HR3.o]);obtain⟨q4,HR4⟩:=qI (kb x.kind 4);have HQ4:Hid (jV (kb x.kind) 4=.bool q4):=ae (by unfold jV;rw[HR4.o]);obtain⟨eA,HEA⟩:=qI (decide (x.name=ov));obtain⟨eB,HEB⟩:=qI (decide (x.name.size<=60));obtain⟨eC,HEC⟩:=qI (decide (x.BE=ov));obtain⟨eD,HED⟩:=qI (decide (x.BE.size<=60));obtain⟨eE,HEE⟩:=qI (decide (x.n=0));obtain⟨eF,HEF⟩:=qI (decide (-1<=x.n));obtain⟨eG,HEG⟩:=qI (decide (x.n<=65534));obtain⟨eH,HEH⟩:=qI (decide (x.data.length=0));obtain⟨eI,HEI⟩:=qI (decide (x.data.length<=129));obtain⟨eJ,HEJ⟩:=qI (decide (x.bS.length=0));obtain⟨eK,HEK⟩:=qI (decide (x.bS.length<=64));obtain⟨ko,HKO⟩:=qI (kindOk x.kind);rw[HKO.o] at C1;clear h h0;go_enter func137,ntmps137
 go_upto_region 2 with(first|(with_reducible refine jo 9 3 8 (HX.o.below S.b).c0 ?_)|(go_at_call 181;refine je S (C1.o _) λW1 S=>?_)|((with_reducible refine dH 3 272 ?_);refine gD S zeroValue272 CH rfl λWA S=>?_)|((with_reducible refine aS 272 3 11 ?_);refine Nb S 0 rfl rfl rfl HP.o UM (Ct _) λWN S=>?_))
 obtain⟨EE,hEE⟩:=cM W1.heap.size;rw[hEE] at S ⊢;clear hEE;have HS:=ae S;refine wp_region_lit ?_;refine gK (jP b o EE 24 (ko&& (q0||eA)) WN) 12 _ _ _ ?_ ?_
 . change wpList _ _ _ [_,_,_,_,_,_,_,_,_,_,_,_] _ _;cases ko with
   | false=>
    go_wp2
    all_goals first |(refine jP.mk' _ ?_ ?_ ?_ ?_ <;> rfl) |(exfalso;have hb:=‹some undef=some (Value.bool _)›;cases hb)
   | true=>
    cases q0 with
    | true=>
     go_wp2_with ((with_reducible refine cP 16 4 15 ?_);refine cV cm ?_;refine dY S 0 rfl 0 (v:=.bool true) HQ0.o qv rfl gU ?_)
     refine jP.mk' _ ?_ ?_ ?_ ?_ <;> rfl
    | false=>
     rcases eA with _ | _;have hh:=wx HEA.o;have wf:x.name.toList.isEmpty=false:=qp hh
     rotate_left
     have hh:=lK HEA.o;have wf:x.name.toList.isEmpty=true:=by rw[hh,Iv];rfl
     all_goals
      clear hh
      go_wp2_with (first
   |(with_reducible refine jg 21 9 20 (HX.o.below S.b).c1 ?_)
   |((with_reducible refine pP ?_);refine O9 S 0 rfl 0 (v:=.bool false) HQ0.o ?_))
      refine jP.mk' _ ?_ ?_ ?_ ?_ <;> rfl
 rintro a W9 ⟨hW,v0,rfl,g0,g3,gp⟩;obtain rfl:WN=W9:=hW.symm;clear hW;obtain⟨cA,HCA⟩:=qI ((ko&& (q0||eA)));rw[HCA.o] at gp;change wpList _ _ _ (_::_) _ _;unfold oY;rw[g0,g3,gp];clear g0 g3 gp;refine gK (jP b o EE 32 (cA&&eB) WN) 8 _ _ _ ?_ ?_
 . change wpList _ _ _ [_,_,_,_,_,_,_,_] _ _;cases cA with
   | false=>
    go_wp2
    all_goals first |(refine jP.mk' _ ?_ ?_ ?_ ?_ <;> rfl)
   | true=>
    rcases eB with _ | _;have hh:=wx HEB.o;have wf:decide ((x.name.size:Int)<=60)=false:=iE au
    rotate_left
    have hh:=lK HEB.o;have wf:decide ((x.name.size:Int)<=60)=true:=ly au
    all_goals
     clear hh
     go_wp2_with (with_reducible refine jg 29 9 28 (HX.o.below S.b).c1 ?_)
     refine jP.mk' _ ?_ ?_ ?_ ?_ <;> rfl
 rintro a W9 ⟨hW,v1,rfl,g0,g3,gp⟩;obtain rfl:WN=W9:=hW.symm;clear hW;obtain⟨cB,HCB⟩:=qI ((cA&&eB));rw[HCB.o] at gp;change wpList _ _ _ (_::_) _ _;unfold oY;rw[g0,g3,gp];clear g0 g3 gp;refine gK (jP b o EE 43 (cB&& (q1||eC)) WN) 11 _ _ _ ?_ ?_
 . change wpList _ _ _ [_,_,_,_,_,_,_,_,_,_,_] _ _;cases cB with
   | false=>
    go_wp2
    all_goals first |(refine jP.mk' _ ?_ ?_ ?_ ?_ <;> rfl) |(exfalso;have hb:=‹some undef=some (Value.bool _)›;cases hb)
   | true=>
    cases q1 with
    | true=>
     go_wp2_with ((with_reducible refine cP 35 4 34 ?_);refine cV cm ?_;refine dY S 0 rfl 1 (v:=.bool true) HQ1.o qv rfl gU ?_)
     refine jP.mk' _ ?_ ?_ ?_ ?_ <;> rfl
    | false=>
     rcases eC with _ | _;have hh:=wx HEC.o;have wf:x.BE.toList.isEmpty=false:=qp hh
     rotate_left
     have hh:=lK HEC.o;have wf:x.BE.toList.isEmpty=true:=by rw[hh,Iv];rfl
     all_goals
      clear hh
      go_wp2_with (first
   |(with_reducible refine jg 40 9 39 (HX.o.below S.b).c2 ?_)
   |((with_reducible refine pP ?_);refine O9 S 0 rfl 1 (v:=.bool false) HQ1.o ?_))
      refine jP.mk' _ ?_ ?_ ?_ ?_ <;> rfl
 rintro a W9 ⟨hW,v2,rfl,g0,g3,gp⟩;obtain rfl:WN=W9:=hW.symm;clear hW;obtain⟨cC,HCC⟩:=qI ((cB&& (q1||eC)));rw[HCC.o] at gp;change wpList _ _ _ (_::_) _ _;unfold oY;rw[g0,g3,gp];clear g0 g3 gp;refine gK (jP b o EE 51 (cC&&eD) WN) 8 _ _ _ ?_ ?_
 . change wpList _ _ _ [_,_,_,_,_,_,_,_] _ _;cases cC with
   | false=>
    go_wp2
    all_goals first |(refine jP.mk' _ ?_ ?_ ?_ ?_ <;> rfl)
   | true=>
    rcases eD with _ | _;have hh:=wx HED.o;have wf:decide ((x.BE.size:Int)<=60)=false:=iE au
    rotate_left
    have hh:=lK HED.o;have wf:decide ((x.BE.size:Int)<=60)=true:=ly au
    all_goals
     clear hh
     go_wp2_with (with_reducible refine jg 48 9 47 (HX.o.below S.b).c2 ?_)
     refine jP.mk' _ ?_ ?_ ?_ ?_ <;> rfl
 rintro a W9 ⟨hW,v3,rfl,g0,g3,gp⟩;obtain rfl:WN=W9:=hW.symm;clear hW;obtain⟨cD,HCD⟩:=qI ((cC&&eD));rw[HCD.o] at gp;change wpList _ _ _ (_::_) _ _;unfold oY;rw[g0,g3,gp];clear g0 g3 gp;refine gK (jP b o EE 62 (cD&& (q2||eE)) WN) 11 _ _ _ ?_ ?_
 . change wpList _ _ _ [_,_,_,_,_,_,_,_,_,_,_] _ _;cases cD with
   | false=>
    go_wp2
    all_goals first |(refine jP.mk' _ ?_ ?_ ?_ ?_ <;> rfl) |(exfalso;have hb:=‹some undef=some (Value.bool _)›;cases hb)
   | true=>
    cases q2 with
    | true=>
     go_wp2_with ((with_reducible refine cP 54 4 53 ?_);refine cV cm ?_;refine dY S 0 rfl 2 (v:=.bool true) HQ2.o qv rfl gU ?_)
     refine jP.mk' _ ?_ ?_ ?_ ?_ <;> rfl
    | false=>
     rcases eE with _ | _;have hh:=wx HEE.o;have wf:decide (x.n=0)=false:=iE hh;have wg: (x.n==0)=false:=k'.2 hh
     rotate_left
     have hh:=lK HEE.o;have wf:decide (x.n=0)=true:=ly hh;have wg: (x.n==0)=true:=Em.2 hh
     all_goals
      clear hh
      go_wp2_with (first
   |(with_reducible refine jg 59 3 58 (HX.o.below S.b).c3 ?_)
   |((with_reducible refine pP ?_);refine O9 S 0 rfl 2 (v:=.bool false) HQ2.o ?_))
      refine jP.mk' _ ?_ ?_ ?_ ?_ <;> rfl
 rintro a W9 ⟨hW,v4,rfl,g0,g3,gp⟩;obtain rfl:WN=W9:=hW.symm;clear hW;obtain⟨cE,HCE⟩:=qI ((cD&& (q2||eE)));rw[HCE.o] at gp;change wpList _ _ _ (_::_) _ _;unfold oY;rw[g0,g3,gp];clear g0 g3 gp;refine gK (jP b o EE 69 (cE&&eF) WN) 7 _ _ _ ?_ ?_
 . change wpList _ _ _ [_,_,_,_,_,_,_] _ _;cases cE with
   | false=>
    go_wp2
    all_goals first |(refine jP.mk' _ ?_ ?_ ?_ ?_ <;> rfl)
   | true=>
    rcases eF with _ | _;have hh:=wx HEF.o;have wf:decide (-1<=x.n)=false:=iE hh
    rotate_left
    have hh:=lK HEF.o;have wf:decide (-1<=x.n)=true:=ly hh
    all_goals
     clear hh
     go_wp2_with (with_reducible refine jg 67 3 66 (HX.o.below S.b).c3 ?_)
     refine jP.mk' _ ?_ ?_ ?_ ?_ <;> rfl
 rintro a W9 ⟨hW,v5,rfl,g0,g3,gp⟩;obtain rfl:WN=W9:=hW.symm;clear hW;obtain⟨cF,HCF⟩:=qI ((cE&&eF));rw[HCF.o] at gp;change wpList _ _ _ (_::_) _ _;unfold oY;rw[g0,g3,gp];clear g0 g3 gp;refine gK (jP b o EE 76 (cF&&eG) WN) 7 _ _ _ ?_ ?_
 . change wpList _ _ _ [_,_,_,_,_,_,_] _ _;cases cF with
   | false=>
    go_wp2
    all_goals first |(refine jP.mk' _ ?_ ?_ ?_ ?_ <;> rfl)
   | true=>
    rcases eG with _ | _;have hh:=wx HEG.o;have wf:decide (x.n<=65534)=false:=iE hh
    rotate_left
    have hh:=lK HEG.o;have wf:decide (x.n<=65534)=true:=ly hh
    all_goals
     clear hh
     go_wp2_with (with_reducible refine jg 74 3 73 (HX.o.below S.b).c3 ?_)
     refine jP.mk' _ ?_ ?_ ?_ ?_ <;> rfl
 rintro a W9 ⟨hW,v6,rfl,g0,g3,gp⟩;obtain rfl:WN=W9:=hW.symm;clear hW;obtain⟨cG,HCG⟩:=qI ((cF&&eG));rw[HCG.o] at gp;change wpList _ _ _ (_::_) _ _;unfold oY;rw[g0,g3,gp];clear g0 g3 gp;refine gK (jP b o EE 88 (cG&& (q3||eH)) WN) 12 _ _ _ ?_ ?_
 . change wpList _ _ _ [_,_,_,_,_,_,_,_,_,_,_,_] _ _;cases cG with
   | false=>
    go_wp2
    all_goals first |(refine jP.mk' _ ?_ ?_ ?_ ?_ <;> rfl) |(exfalso;have hb:=‹some undef=some (Value.bool _)›;cases hb)
   | true=>
    cases q3 with
    | true=>
     go_wp2_with ((with_reducible refine cP 79 4 78 ?_);refine cV cm ?_;refine dY S 0 rfl 3 (v:=.bool true) HQ3.o qv rfl gU ?_)
     refine jP.mk' _ ?_ ?_ ?_ ?_ <;> rfl
    | false=>
     rcases eH with _ | _;have hh:=wx HEH.o;have wf:decide ((x.data.length:Int)=0)=false:=iE au;have wg: ((x.data.length:Int)==0)=false:=k'.2 au;have wk:decide (x.data.length=0)=false:=iE hh
     rotate_left
     have hh:=lK HEH.o;have wf:decide ((x.data.length:Int)=0)=true:=ly au;have wg: ((x.data.length:Int)==0)=true:=Em.2 au;have wk:decide (x.data.length=0)=true:=ly hh
     all_goals
      clear hh
      go_wp2_with (first
   |(with_reducible refine jg 84 22 83 (HX.o.below S.b).c4 ?_)
   |((with_reducible refine pP ?_);refine O9 S 0 rfl 3 (v:=.bool false) HQ3.o ?_))
      refine jP.mk' _ ?_ ?_ ?_ ?_ <;> rfl
 rintro a W9 ⟨hW,v7,rfl,g0,g3,gp⟩;obtain rfl:WN=W9:=hW.symm;clear hW;obtain⟨cH,HCH⟩:=qI ((cG&& (q3||eH)));rw[HCH.o] at gp;change wpList _ _ _ (_::_) _ _;unfold oY;rw[g0,g3,gp];clear g0 g3 gp;refine gK (jP b o EE 96 (cH&&eI) WN) 8 _ _ _ ?_ ?_
 . change wpList _ _ _ [_,_,_,_,_,_,_,_] _ _;cases cH with
   | false=>
    go_wp2
    all_goals first |(refine jP.mk' _ ?_ ?_ ?_ ?_ <;> rfl)
   | true=>
    rcases eI with _ | _;have hh:=wx HEI.o;have wf:decide ((x.data.length:Int)<=129)=false:=iE au
    rotate_left
    have hh:=lK HEI.o;have wf:decide ((x.data.length:Int)<=129)=true:=ly au
    all_goals
     clear hh
     go_wp2_with (with_reducible refine jg 93 22 92 (HX.o.below S.b).c4 ?_)
     refine jP.mk' _ ?_ ?_ ?_ ?_ <;> rfl
 rintro a W9 ⟨hW,v8,rfl,g0,g3,gp⟩;obtain rfl:WN=W9:=hW.symm;clear hW;obtain⟨cI,HCI⟩:=qI ((cH&&eI));rw[HCI.o] at gp;change wpList _ _ _ (_::_) _ _;unfold oY;rw[g0,g3,gp];clear g0 g3 gp;refine gK (jP b o EE 108 (cI&& (q4||eJ)) WN) 12 _ _ _ ?_ ?_
 . change wpList _ _ _ [_,_,_,_,_,_,_,_,_,_,_,_] _ _;cases cI with
   | false=>
    go_wp2
    all_goals first |(refine jP.mk' _ ?_ ?_ ?_ ?_ <;> rfl) |(exfalso;have hb:=‹some undef=some (Value.bool _)›;cases hb)
   | true=>
    cases q4 with
    | true=>
     go_wp2_with ((with_reducible refine cP 99 4 98 ?_);refine cV cm ?_;refine dY S 0 rfl 4 (v:=.bool true) HQ4.o qv rfl gU ?_)
     refine jP.mk' _ ?_ ?_ ?_ ?_ <;> rfl
    | false=>
     rcases eJ with _ | _;have hh:=wx HEJ.o;have wf:decide ((x.bS.length:Int)=0)=false:=iE au;have wg: ((x.bS.length:Int)==0)=false:=k'.2 au;have wk:decide (x.bS.length=0)=false:=iE hh
     rotate_left
     have hh:=lK HEJ.o;have wf:decide ((x.bS.length:Int)=0)=true:=ly au;have wg: ((x.bS.length:Int)==0)=true:=Em.2 au;have wk:decide (x.bS.length=0)=true:=ly hh
     all_goals
      clear hh
      go_wp2_with (first
   |(with_reducible refine jg 104 39 103 (HX.o.below S.b).c5 ?_)
   |((with_reducible refine pP ?_);refine O9 S 0 rfl 4 (v:=.bool false) HQ4.o ?_))
      refine jP.mk' _ ?_ ?_ ?_ ?_ <;> rfl
 rintro a W9 ⟨hW,v9,rfl,g0,g3,gp⟩;obtain rfl:WN=W9:=hW.symm;clear hW;obtain⟨cJ,HCJ⟩:=qI ((cI&& (q4||eJ)));rw[HCJ.o] at gp;change wpList _ _ _ (_::_) _ _;unfold oY;rw[g0,g3,gp];clear g0 g3 gp;refine gK (jP b o EE 116 (cJ&&eK) WN) 8 _ _ _ ?_ ?_
 . change wpList _ _ _ [_,_,_,_,_,_,_,_] _ _;cases cJ with
   | false=>
    go_wp2
    all_goals first |(refine jP.mk' _ ?_ ?_ ?_ ?_ <;> rfl)
   | true=>
    rcases eK with _ | _;have hh:=wx HEK.o;have wf:decide ((x.bS.length:Int)<=64)=false:=iE au
    rotate_left
    have hh:=lK HEK.o;have wf:decide ((x.bS.length:Int)<=64)=true:=ly au
    all_goals
     clear hh
     go_wp2_with (with_reducible refine jg 113 39 112 (HX.o.below S.b).c5 ?_)
     refine jP.mk' _ ?_ ?_ ?_ ?_ <;> rfl
 rintro a W9 ⟨hW,v10,rfl,g0,g3,gp⟩;obtain rfl:WN=W9:=hW.symm;clear hW;obtain⟨cK,HCK⟩:=qI ((cJ&&eK));rw[HCK.o] at gp;change wpList _ _ _ (_::_) _ _;unfold oY;rw[g0,g3,gp];clear g0 g3 gp;go_wp2;go_ret;refine⟨?_,HS.o.fr.below⟩;have hf:kJ x.toxH=cK:=by
  unfold kJ;rw[HKO.o,HR0.o,HR1.o,HR2.o,HR3.o,HR4.o,HEA.o,HEB.o,HEC.o,HED.o,HEE.o,HEF.o,HEG.o,HEH.o,HEI.o,HEJ.o,HEK.o];rw[<-HCK.o,<-HCJ.o,<-HCI.o,<-HCH.o,<-HCG.o,<-HCF.o,<-HCE.o,<-HCD.o,<-HCC.o,<-HCB.o,<-HCA.o];simp only[Bool.and_assoc]
 rw[hf];rfl
structure EI (o:xH):Prop where
 kind:0<=o.kind/\o.kind<=12
 name:o.name.size<=60
 BE:o.BE.size<=60
 n: -1<=o.n/\o.n<=65534
 data:o.data.length<=129
 bS:o.bS.length<=64
theorem tT {o:xH}(h:kJ o=true):EI o:=by
 unfold kJ at h;simp only[Jh,yy] at h;obtain⟨h1,-,h2,-,h3,-,h4,h5,-,h6,-,h7⟩:=h;exact⟨lK h1,h2,h3,⟨h4,h5⟩,h6,h7⟩
def Es (n:Int):Nat:=if 0<=n then n.toNat else 65535
def xC (l:List Bool):aK:=l.map λb=>if b=true then 1 else 0
def opHead (o:xH):aK:=ez [1,2] [o.kind.toNat,Es o.n]
def tt (o:xH):List aK:=[opHead o,lR o.name,lR o.BE,o.data,xC o.bS]
def kd (o:xH):aK:=qf 5++(tt o).flatMap su
theorem GL (o:xH): (opHead o).length=3:=by rfl
theorem xD {o:xH} (h:EI o): ∀t∈tt o,t.length<=129:=by
 intro t ht;unfold tt at ht;have h1:=h.name;have h2:=h.BE;have h3:=h.data;have h4:=h.bS;simp only[iI,kz,tZ] at ht;rcases ht with rfl | rfl | rfl | rfl | rfl
 . rw[GL];omega
 . rw[x'];omega
 . rw[x'];omega
 . exact h3
 grind[xC]
theorem BF {o:xH}(h:EI o):mP (tt o)=some (kd o):=by
 unfold mP;rw[bC]
 . rfl
 grind[tt,xD]
theorem Uy {o:xH}(h:EI o):mX [1,2] [o.kind.toNat,Es o.n]=some (opHead o):=by
 have h1:=h.kind;have h2:=h.n;unfold mX;rw[bC]
 . rfl
 . refine⟨by decide,rfl,?_⟩
   grind[Es,fitAll]
theorem DT {o:xH}(h:EI o): (kd o).length<=700:=by
 have hf:=xD h;unfold kd;unfold tt at hf ⊢;have h0:=hf (opHead o) fh;have h1:=hf (lR o.name) fh;have h2:=hf (lR o.BE) fh;have h3:=hf o.data fh;have h4:=hf (xC o.bS) fh;simp only[flatMap_cons,flatMap_nil,su,qf,kh,o8,we];omega
theorem Sc (l:List Bool): ∀y∈xC l,y<256:=by
 intro y hy;unfold xC at hy
 grind
theorem GM {o:xH}(h:EI o)(hd: ∀y∈o.data,y<256): ∀y∈kd o,y<256:=by
 refine AU (BF h) λt ht=>?_;unfold tt at ht;simp only[iI,kz,tZ] at ht;rcases ht with rfl | rfl | rfl | rfl | rfl
 . exact lj _ _
 . exact pA _
 . exact pA _
 . exact hd
 grind[xC]
structure sH where
 gj:Int
 ops:List xH
def lu (s:sH):Bool:=decide (64<=s.gj/\s.gj<=1024/\s.ops.length<=200)&&s.ops.all kJ
structure aby (s:sH):Prop where
 gj:64<=s.gj/\s.gj<=1024
 mZ:s.ops.length<=200
 op: ∀o∈s.ops,kJ o=true
theorem om {s:sH}(h:lu s=true):aby s:=by
 unfold lu at h;rw[Jh,yy,Ak] at h;exact⟨⟨h.1.1,h.1.2.1⟩,h.1.2.2,h.2⟩
def iQ (s:sH):Option aK:=if lu s=true then mP (ez [2] [s.gj.toNat]::s.ops.map kd) else none
theorem GN {s:sH}(h:lu s=true): ∃r,iQ s=some r:=by
 have hk:=om h;have h1: (ez [2] [s.gj.toNat]::s.ops.map kd).length<=65535:=by
  have:=hk.mZ
  grind
 have h2: ∀t∈ez [2] [s.gj.toNat]::s.ops.map kd,t.length<=65535:=λt ht=>by
  rcases iI.1 ht with rfl | ht
  . rw[oB (ws:=[2]) (ns:=[s.gj.toNat]) rfl];decide
  . obtain⟨o,ho,rfl⟩:=lY.1 ht;have:=DT (tT (hk.op o ho));omega
 simp_all[iQ,mP]
def abz (ns p1 p2 p3 p4:aK):xH:=⟨((ns.getD 0 0:Nat):Int),vZ p1,vZ p2,if ns.getD 1 0=65535 then -1 else((ns.getD 1 0:Nat):Int),p3,p4.map λk=>decide (k=1)⟩
def mW (bs:aK):Option xH:=
 match np bs with
 | some [p0,p1,p2,p3,p4]=>match kx [1,2] p0 with
  | none=>none
  | some ns=>if p4.length<=64 then(if p4.all (λk=>decide (k<=1))=true then some (abz ns p1 p2 p3 p4) else none) else none
 | _=>none
def iZ:List aK->Option (List xH)
 | []=>some []
 | t::ts=>match mW t with
  | none=>none
  | some o=>match iZ ts with
   | none=>none
   | some l=>some (o::l)
theorem I3 (l:List aK)(t:aK):iZ (l++[t])=match iZ l with
 | none=>none
 | some ss=>match mW t with
  | none=>none
  | some s=>some (ss++[s]):=by
 induction l<;>grind[iZ]
theorem I4 {l:List aK}(h:iZ (l.take k)=none):iZ l=none:=by
 rw[<-Sv k l];generalize l.drop k=m;generalize l.take k=n at h
 induction n<;>grind[iZ]
def mN (bs:aK):Option sH:=
 match np bs with
 | none=>none
 | some ts=>if ts.length<1∨201<ts.length then none else match kx [2] (ts.headD []) with
  | none=>none
  | some ns=>match iZ (ts.drop 1) with
   | none=>none
   | some ops=>match iQ ⟨((ns.getD 0 0:Nat):Int),ops⟩ with
    | none=>none
    | some b=>if b=bs then some ⟨((ns.getD 0 0:Nat):Int),ops⟩ else none
theorem I5 {s:sH} {b:aK} (h:iQ s=some b):lu s=true:=by
 grind[iQ]
theorem zm {s:sH}(h:mN bs=some s):lu s=true:=by
 unfold mN at h
 grind[I5]
def qw.dv (x:qw):bh:=.slice x.da x.data.length x.dc
def qw.kv (x:qw):bh:=.slice x.ka x.bS.length x.kc
def opE (x:qw):List bh:=(ah 6 (O6 x)).toList
theorem U6 (x:qw): (opE x).length=6:=by rfl
def YX (l:List qw):List bh:=l.flatMap opE
theorem Xq (l:List qw)(x:qw):YX (l++[x])=YX l++(ah 6 (O6 x)).toList:=by grind[YX,opE]
def XP (x:qw):aK->aD->Prop:=λB w=>qC 5 1 x.dv x.data.length (aQ x.data) B w/\qC 4 1 x.kv x.bS.length (rJ x.bS) B w
def UQ (v:bh) (l:List qw):aK->aD->Prop:=λB w=>qC 41 6 v l.length (YX l) B w/\∀x∈l,XP x B w
theorem si (x:qw):Still (XP x):=(cz 5 1 _ _ _ rfl rfl).and (cz 4 1 _ _ _ rfl rfl)
theorem lE (v:bh)(l:List qw):Still (UQ v l):=(cz 41 6 v _ _ rfl rfl).and (uz l λx _=>si x)
def oZ (w:aD) (v:bh) (l:List qw):Prop:=UQ v l [] w
theorem oZ.below {l:List qw}(h:oZ w v l)(s:dp w w'):oZ w' v l:=(lE v l).below h s
theorem oZ.fr {d:Option Nat} {b:aK} {w w':aD} {v:bh} {l:List qw} (h:oZ w v l) (s:Fr d b w w'):oZ w' v l:=(lE v l).fr h s
def Et (w:aD) (base:Nat) (x:qw):Prop:=XP x [] w/\(0<x.data.length->∀b,x.dv.ownBlock=some b->base<=b)/\(0<x.bS.length->∀b,x.kv.ownBlock=some b->base<=b)
theorem Et.x {x:qw}(h:Et w w0.heap.size x)(hB: ∀b∈B,b<w0.heap.size):XP x B w:=
 ⟨⟨h.1.1.1,λhn b hb hm=>Al _ (X0 (h.2.1 hn b hb) (hB b hm))⟩,⟨h.1.2.1,λhn b hb hm=>Al _ (X0 (h.2.2 hn b hb) (hB b hm))⟩⟩
def q7 (x:qw):Prop:=kV x.dv/\∀y∈x.data,y<256
def Zx (w:aD) (base:Nat) (B:iw) (o:xH):Prop:=∃x:qw,B=ah 6 (O6 x)/\x.toxH=o/\Et w base x/\q7 x
theorem oZ.at {b cap:Nat}{l:List qw}(h:oZ w (.slice (some ⟨b,o,none⟩) n cap) l){x:qw}(hx:l[i]? =some x):tS w b (o+i*6) x:=by
 intro k hk;obtain⟨hi,rfl⟩:=sy.1 hx;have h1:=h.1.1;obtain⟨_,ao,cap',h2,_⟩:=id h1;have hn:n=l.length:=by grind
 subst hn;rw[Vb];refine h1.cellAt au ?_;unfold YX;rw[flat_get U6 l hi hk]
 simp_all[opE,aF]
structure q8 where
 gj:Int
 l:List qw
 bI:Option Addr
 cap:Nat
def yx (l:List qw):List xH:=l.map qw.toxH
theorem q9 (l:List qw): (yx l).length=l.length:=pr _
def q8.t (s:q8):sH:=⟨s.gj,yx s.l⟩
def q8.sv (s:q8):bh:=.slice s.bI s.l.length s.cap
def uM (s:q8):Nat->bh:=λi=>if i=0 then .int .i64 s.gj else s.sv
theorem kS (s:q8): ∀i,(uM s i).oneCell'=true:=by intro i;unfold uM;split <;> rfl
instance in9322e (s:q8):OF (uM s):=⟨kS s⟩
def zt:q8:=⟨0,[],none,0⟩
def Eh:qw:=⟨⟨0,ov,ov,0,[],[]⟩,none,0,none,0⟩
theorem mh: (#[.int .i64 0,.slice none 0 0]:iw)=ah 2 (uM zt):=rfl
instance in1dcef :ZR 32 2 (uM zt):=⟨_,Oz,mh⟩
theorem vf: (#[.int .i64 0,.string ⟨#[]⟩,.string ⟨#[]⟩,.int .i64 0,.slice none 0 0,.slice none 0 0]:iw)=ah 6 (O6 Eh):=rfl
instance in80665 :ZR 41 6 (O6 Eh):=⟨_,zeroValue41,vf⟩
theorem LN:fu prog 32 2:=⟨⟨_,underlying32,rfl⟩,cm⟩
instance inf2ec7 :td 32 2:=⟨LN⟩
theorem Xr:fu prog 41 6:=⟨⟨_,underlying41,rfl⟩,cm⟩
instance ina6a03 :td 41 6:=⟨Xr⟩
theorem uh:prog.built 32 []=some #[.int .i64 0,.slice none 0 0]:=cm
theorem KQ:prog.built 41 []=some #[.int .i64 0,.string ⟨#[]⟩,.string ⟨#[]⟩,.int .i64 0,.slice none 0 0,.slice none 0 0]:=cm
theorem Ht:fZ prog 30:=⟨⟨_,underlying30,rfl⟩,cm⟩
instance in66103 :qD 30:=⟨Ht⟩
theorem aap: (prog.info? 41).map (λi=>(i.zero,i.size,i.bytes))=some (some (.agg #[.int .i64 0,.string ⟨#[]⟩,.string ⟨#[]⟩,.int .i64 0,.slice none 0 0,.slice none 0 0]),6,96):=cm
theorem TG:qj prog 30 41 6 96:=⟨underlying30,_,aap,rfl,au⟩
def Xs (w:aD) (base:Nat) (B:iw) (t:sH):Prop:=∃s:q8,B=ah 2 (uM s)/\s.t=t/\w.ownsRow base 41 6 s.sv s.l.length (YX s.l)/\∀x∈s.l,Et w base x/\q7 x
theorem sj (w:aD)(base:Nat):Zx w base #[.int .i64 0,.string ⟨#[]⟩,.string ⟨#[]⟩,.int .i64 0,.slice none 0 0,.slice none 0 0] Eh.toxH:=
 ⟨Eh,vf,rfl,⟨⟨⟨ar.nil w 5 1,λh=>absurd h (Al _)⟩,⟨ar.nil w 4 1,λh=>absurd h (Al _)⟩⟩,⟨λh=>absurd h (Al _),λh=>absurd h (Al _)⟩⟩,.inl rfl,λy h=>absurd h kz⟩
theorem mu (w:aD)(base:Nat):Xs w base #[.int .i64 0,.slice none 0 0] zt.t:=
 ⟨zt,mh,rfl,ju _ _ _ _,λx h=>absurd h kz⟩
end Go.Proofs.YtklligbjoplbgaaGreat
