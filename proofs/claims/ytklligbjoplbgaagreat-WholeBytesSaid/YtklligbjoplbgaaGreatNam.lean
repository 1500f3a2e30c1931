/- Part 13 of 15 of the proof of WholeBytes; no conditions. -/
import Derived.Test.YtklligbjoplbgaaGreatNal
namespace Go.Proofs.YtklligbjoplbgaaGreat
set_option linter.all false
set_option maxRecDepth 100000
set_option maxHeartbeats 64000000
open Go.RowKit Lib List Nat _root_.Go.Proofs.Tryz Go.Shelf
variable {b:cL}{c:bx}{g g3:dK}{B:aK}{l:List Int}{O:List O4}{ps:List aq}{L:List R4}{D G2 K M M2 base k n:Nat}{f:Nat->bh}{d:Option Nat}{s s2:Pl}{q:bh}{w w' w1 w2:aD}
theorem EJ (h:ct b)(full:lf)(i:Int):oV (uG b full i).1:=by
 unfold uG;cases dQ full with
 | none=>exact j9
 | some p=>
  simp only[E'];split
  . unfold qQ;simp only;split
    . exact j9
    split
    . exact j9
    split
    . exact j9
    . exact Ot h.ok _
  . exact j9
def Sd (bs:aK) (i:Int) (x:GT) (v:cu×Int):GT×Int:=
 if v.2≠0 then(x,v.2) else if 128<bs.length then(x,92) else DS v.1.id x (kW x.s v.1.root i bs)
def Xu (i:Int) (x:GT) (v:cu×Int):GT×Int:=if v.2≠0 then(x,v.2) else DS v.1.id x (iM x.s v.1.root i)
theorem Q1 (G D M:Nat)(g:dK)(s:Pl)(ht:ct g.b.t)(hl:g.held.length<=100000)(ho:s.dv.ops<=990000000)(full:lf)(hfu:full.size<=1000000)(i:Int)(bs:aK)(ba:Option Addr)(bc:Nat)(c1 c2 c3:Nat)(w:aD)(h:bw w G g D M s)(hbs:eX w 5 (.slice ba bs.length bc) bs)(hc1:ag w c1 9 1 (λ_=>.string full))(hc2:ag w c2 3 1 (λ_=>.int .i64 i))(hc3:ag w c3 22 1 (λ_=>.slice ba bs.length bc)):
 Calls prog 78 (#[.agg (ah 1 λ_=>.pointer (some ⟨G,0,none⟩))]++ #[.pointer (some ⟨c1,0,none⟩),.pointer (some ⟨c2,0,none⟩),.pointer (some ⟨c3,0,none⟩)]) w λe w'=>sd w w' G D M g (sg full i bs (g.gt s)) e:=by
 show Calls prog 78 #[.agg (ah 1 λ_=>bZ G 0),bZ c1 0,bZ c2 0,bZ c3 0] w _;obtain⟨A,hA⟩:=gq (ah 1 (λ_=>bZ G 0));rw[<-hA];have HA:=ae hA;have S:=St.start w (some D) [G,M,g.P] (c8 G g D M s) h.x;have HGP:=ae (kM.IY h.x);have CP:=ae λW (X:bw W G g D M s)=>j8 G D M g s W X;have C1:=ae λW (X:bw W G g D M s)=>xo G D M g s A hA ht.fit full hfu i W X;have hvo:=EJ ht full i;obtain⟨vb,hvb⟩:=cM (uG g.b.t full i);have HK:=ae (show sg full i bs (g.gt s)=Sd bs i (g.gt s) (uG g.b.t full i) from rfl);obtain⟨T,hT⟩:=cM (sg full i bs (g.gt s));rw[hT,hvb] at HK;rw[hT];rw[hvb] at C1 hvo;obtain⟨t0,cv⟩:=vb;simp only at C1 hvo;unfold Sd at HK;simp only at HK;have hdv:=h.ft.dev.1;have hso:=h.ft.ok.1;have C4:=ae λ(y:aZ) (hyr:bt y.root) W (X:bH W g.P D M s) (hf:Fr (some D) [G,M,g.P] w W)=>NT g.P D M s (kL ho nh) y.root hyr i (.slice ba bs.length bc) bs W X (eX.fr hbs hf (.inr rfl) rfl);have C5:=ae λs1 (y:aZ) q (hq:bt q) old (hold:cx old) (hol:old.length<=1000) r W X R=>BC G D M g s1 ht hl y.id q hq old hold hol r A hA W X R;have HTP:=ae λ(y:aZ) (hyr:bt y.root)=>zh hdv hso hyr i bs;have Hc1:=ae hc1;have Hc2:=ae hc2;have Hc3:=ae hc3;have HV:=ae hvo.2.2.1;clear h hA ht hl ho hT hvb hvo hdv hso hbs hc1 hc2 hc3;go_enter func78,ntmps78
 go_upto_region 2 with(first|((with_reducible refine pP ?_);first | refine BN (ag.cell (ag.fr Hc1.o S.fr (.inr rfl) (.inl rfl)) (i:=0) au) ?_ | refine BN (ag.cell (ag.fr Hc2.o S.fr (.inr rfl) (.inl rfl)) (i:=0) au) ?_)|(go_at_call 79;refine(C1.o _ S.x.at).mono ?_;rintro e WV ⟨B,rfl,⟨y,hB,hy,-⟩,hb⟩;have HB:=ae hB;have HY:=ae hy;replace S:=S.below hb;clear hB hy)|refine fN ?_|refine ew λW S=>?_)
 by_cases g2:cv=0
 case neg=>
  have g3: (cv != 0)=true:=lh.2 g2;rw[bC g2] at HK;clear g2;go_wp2;go_ret;rw[HK.o];exact⟨g,s,rfl,rfl,S.x.at,rfl,id,S.fr⟩
 subst g2;rw[bX (show ¬((0:Int)≠0) from λh=>h rfl)] at HK;by_cases g5:128<bs.length
 case pos=>
  have g6:decide (128<bs.length)=true:=ly g5;have g7:decide ((128:Int)< (bs.length:Int))=true:=ly au;rw[bC g5] at HK;clear g5
  go_wp2_with ((with_reducible refine aG 20 22 3 ?_);refine bM (ag.cell (ag.fr Hc3.o S.fr (.inr rfl) (.inl rfl)) (i:=0) au) rfl pe ?_)
  go_ret;rw[HK.o];exact⟨g,s,rfl,rfl,S.x.at,rfl,id,S.fr⟩
 have g6:decide (128<bs.length)=false:=iE g5;have g7:decide ((128:Int)< (bs.length:Int))=false:=iE au;rw[bX g5] at HK;clear g5;rw[<-HY.o] at HK;have hyr:bt y.root:=by have h1:=HV.o;rw[<-HY.o] at h1;exact h1
 obtain⟨hp1,hp2,hp3⟩:=HTP.o y hyr;have C4:=ae (C4.o y hyr);obtain⟨t,htr⟩:=cM (kW s y.root i bs);rw[show y.tocu.root=y.root from rfl,show(g.gt s).s=s from rfl,htr] at HK;rw[htr] at C4 hp1 hp2 hp3;obtain⟨s1,q1,old,c⟩:=t;simp only at C4 hp1 hp2 hp3;obtain⟨AQ,hAQ⟩:=gq (ah 3 (aN y.root));obtain⟨A1,hA1⟩:=gq (ah 3 (aN q1));rw[az hAQ,az hA1] at C4;have C5:=ae (C5.o s1 y q1 hp1 old hp2 (kL hp3 nh));rw[az hA1] at C5;have HAQ:=ae hAQ;have HA1:=ae hA1;unfold DS at HK;simp only at HK;clear hyr hp1 hp2 hp3 htr hAQ hA1
 go_upto_region 6 with((with_reducible refine aG 20 22 3 ?_);refine bM (ag.cell (ag.fr Hc3.o S.fr (.inr rfl) (.inl rfl)) (i:=0) au) rfl pe ?_)
 refine bf S cm [⟨WV.heap.size,109,11,dy y⟩,⟨w.heap.size,118,1,λ_=>bZ G 0⟩] L9 λW S=>?_;refine bp 0 24 (bZ w.heap.size 0) ?_;refine bp 1 25 (bZ G 0) ?_;refine bp 3 27 (bZ WV.heap.size 7) ?_;refine gY 4 28 (.agg AQ) rfl (Wz (λw h=>h.row 0 rfl) (o:=7) (m:=3) rfl (aN y.root) (show 7+3<=11 by decide) (rz y) HAQ.o bd) ?_;refine gY 5 29 (.int .i64 i) rfl (bP (λw h=>ag.cell (ag.fr Hc2.o h.fr (.inr rfl) (.inl rfl)) (i:=0) au) rfl kX) ?_;refine gY 6 30 (.slice ba bs.length bc) rfl (bP (λw h=>ag.cell (ag.fr Hc3.o h.fr (.inr rfl) (.inl rfl)) (i:=0) au) rfl pe) ?_
 repeat' first|refine Zf ?_|refine qK 8 23 _ ?_|refine qK 9 32 (.agg A1) ?_|refine qK 10 33 (.slice ra old.length rc) ?_|refine qK 11 34 (.int .i64 c) ?_|refine qK 14 9 _ ?_|refine qK 15 7 _ ?_|refine JV 2 12 (λK hK=>?_) λK hK=>?_|refine JV 7 12 (λK hK=>?_) λK hK=>?_|refine tF 2 λK hK=>?_|refine tF 12 λK hK=>?_|refine tF 7 λK hK=>?_|refine tF 13 λK hK=>?_|(go_wp2_with fail;refine qJ (CP.o _ S.x.at) ?_;refine gM hK ?_;clear hK)|(refine bG S D8 bz rfl λE8 W S=>?_;refine gM hK ?_;clear hK)|(go_wp2_with fail;refine(C4.o _ S.x.at.ft S.fr).mono ?_;rintro e W ⟨r,rfl,hro,hp,hf⟩;have HF:=ae (aH hro);replace S:=S.pO (X':=kM G g D M s1) hf (λD e=>e) (λk hk=>.inl (by rw[gz.1 hk];simp)) (c8 G g D M s1) (λB h=>h.pl hf (by rw[gz];exact HGP.o.2.1) hp) hro rfl rfl;clear hro hf;obtain⟨ra,rc,rfl⟩:=HF.o;clear HF;refine gM hK ?_;clear hK)|(refine dL S 0 rfl rfl rfl HA1.o bd (aE _) λW S=>?_;refine gM hK ?_;clear hK)
 all_goals (
  refine ae ?_;by_cases g2:c=0
  case neg=>
   have g3: (c != 0)=true:=lh.2 g2;rw[bC g2] at HK;clear g2
   go_wp2_with (go_at_call 49;refine(mI c _).mono ?_;rintro e W ⟨rfl,rfl⟩;)
   go_ret;rw[HK.o];exact⟨g,s1,rfl,rfl,S.x.at,rfl,id,S.fr⟩
  subst g2;rw[bX (show ¬((0:Int)≠0) from λh=>h rfl)] at HK;have HK2:=ae (show T=DR y.id q1 old (g.gt s1) from HK.o);clear HK
  go_wp2_with (first|(go_at_call 81;refine(C5.o _ _ S.x.at S.q0).mono ?_;rintro e W hK;have HKR:=ae hK;clear hK;obtain⟨g3,s3,rfl,hP,hg,hgt3,hpp,hf⟩:=HKR.o;clear HKR;have hF:=S.fr.step hf (λD e=>e) (λk hk=>.inl hk);have HR:=ae (And.intro hP (And.intro hg (And.intro hgt3 hpp)));clear hP hg hgt3 hpp;rw[<-HK2.o])|refine fN ?_)
  go_ret;obtain⟨hP,hg,hgt3,hpp⟩:=HR.o;rw[<-HK2.o] at hgt3;exact⟨g3,s3,rfl,hP,hg,hgt3,hpp,hF⟩)
theorem UC (G D M:Nat)(g:dK)(s:Pl)(ht:ct g.b.t)(hl:g.held.length<=100000)(ho:s.dv.ops<=990000000)(full:lf)(hfu:full.size<=1000000)(i:Int)(c1 c2:Nat)(w:aD)(h:bw w G g D M s)(hc1:ag w c1 9 1 (λ_=>.string full))(hc2:ag w c2 3 1 (λ_=>.int .i64 i)):
 Calls prog 94 (#[.agg (ah 1 λ_=>.pointer (some ⟨G,0,none⟩))]++ #[.pointer (some ⟨c1,0,none⟩),.pointer (some ⟨c2,0,none⟩)]) w λe w'=>sd w w' G D M g (xA full i (g.gt s)) e:=by
 show Calls prog 94 #[.agg (ah 1 λ_=>bZ G 0),bZ c1 0,bZ c2 0] w _;obtain⟨A,hA⟩:=gq (ah 1 (λ_=>bZ G 0));rw[<-hA];have HA:=ae hA;have S:=St.start w (some D) [G,M,g.P] (c8 G g D M s) h.x;have HGP:=ae (kM.IY h.x);have CP:=ae λW (X:bw W G g D M s)=>j8 G D M g s W X;have C1:=ae λW (X:bw W G g D M s)=>xo G D M g s A hA ht.fit full hfu i W X;have hvo:=EJ ht full i;obtain⟨vb,hvb⟩:=cM (uG g.b.t full i);have HK:=ae (show xA full i (g.gt s)=Xu i (g.gt s) (uG g.b.t full i) from rfl);obtain⟨T,hT⟩:=cM (xA full i (g.gt s));rw[hT,hvb] at HK;rw[hT];rw[hvb] at C1 hvo;obtain⟨t0,cv⟩:=vb;simp only at C1 hvo;unfold Xu at HK;simp only at HK;have hdv:=h.ft.dev.1;have hso:=h.ft.ok.1;have C4:=ae λ(y:aZ) (hyr:bt y.root) W (X:bH W g.P D M s) (hf:Fr (some D) [G,M,g.P] w W)=>Lf g.P D M s (kL ho nh) y.root hyr i W X;have C5:=ae λs1 (y:aZ) q (hq:bt q) old (hold:cx old) (hol:old.length<=1000) r W X R=>BC G D M g s1 ht hl y.id q hq old hold hol r A hA W X R;have HTP:=ae λ(y:aZ) (hyr:bt y.root)=>xw hdv hso hyr i;have Hc1:=ae hc1;have Hc2:=ae hc2;have HV:=ae hvo.2.2.1;clear h hA ht hl ho hT hvb hvo hdv hso hc1 hc2;go_enter func94,ntmps94
 go_upto_region 2 with(first|((with_reducible refine pP ?_);first | refine BN (ag.cell (ag.fr Hc1.o S.fr (.inr rfl) (.inl rfl)) (i:=0) au) ?_ | refine BN (ag.cell (ag.fr Hc2.o S.fr (.inr rfl) (.inl rfl)) (i:=0) au) ?_)|(go_at_call 79;refine(C1.o _ S.x.at).mono ?_;rintro e WV ⟨B,rfl,⟨y,hB,hy,-⟩,hb⟩;have HB:=ae hB;have HY:=ae hy;replace S:=S.below hb;clear hB hy)|refine fN ?_|refine ew λW S=>?_)
 by_cases g2:cv=0
 case neg=>
  have g3: (cv != 0)=true:=lh.2 g2;rw[bC g2] at HK;clear g2;go_wp2;go_ret;rw[HK.o];exact⟨g,s,rfl,rfl,S.x.at,rfl,id,S.fr⟩
 subst g2;rw[bX (show ¬((0:Int)≠0) from λh=>h rfl)] at HK;rw[<-HY.o] at HK;have hyr:bt y.root:=by have h1:=HV.o;rw[<-HY.o] at h1;exact h1
 obtain⟨hp1,hp2,hp3⟩:=HTP.o y hyr;have C4:=ae (C4.o y hyr);obtain⟨t,htr⟩:=cM (iM s y.root i);rw[show y.tocu.root=y.root from rfl,show(g.gt s).s=s from rfl,htr] at HK;rw[htr] at C4 hp1 hp2 hp3;obtain⟨s1,q1,old,c⟩:=t;simp only at C4 hp1 hp2 hp3;obtain⟨AQ,hAQ⟩:=gq (ah 3 (aN y.root));obtain⟨A1,hA1⟩:=gq (ah 3 (aN q1));rw[az hAQ,az hA1] at C4;have C5:=ae (C5.o s1 y q1 hp1 old hp2 (kL hp3 nh));rw[az hA1] at C5;have HAQ:=ae hAQ;have HA1:=ae hA1;unfold DS at HK;simp only at HK;clear hyr hp1 hp2 hp3 htr hAQ hA1
 go_upto_region 4 with(fail)
 refine bf S cm [⟨WV.heap.size,109,11,dy y⟩,⟨w.heap.size,118,1,λ_=>bZ G 0⟩] L9 λW S=>?_;refine bp 0 20 (bZ w.heap.size 0) ?_;refine bp 1 21 (bZ G 0) ?_;refine bp 3 23 (bZ WV.heap.size 7) ?_;refine gY 4 24 (.agg AQ) rfl (Wz (λw h=>h.row 0 rfl) (o:=7) (m:=3) rfl (aN y.root) (show 7+3<=11 by decide) (rz y) HAQ.o bd) ?_;refine gY 5 25 (.int .i64 i) rfl (bP (λw h=>ag.cell (ag.fr Hc2.o h.fr (.inr rfl) (.inl rfl)) (i:=0) au) rfl kX) ?_
 repeat' first|refine Zf ?_|refine qK 7 19 _ ?_|refine qK 8 27 (.agg A1) ?_|refine qK 9 28 (.slice ra old.length rc) ?_|refine qK 10 29 (.int .i64 c) ?_|refine qK 13 8 _ ?_|refine qK 14 6 _ ?_|refine JV 2 11 (λK hK=>?_) λK hK=>?_|refine JV 6 11 (λK hK=>?_) λK hK=>?_|refine tF 2 λK hK=>?_|refine tF 11 λK hK=>?_|refine tF 6 λK hK=>?_|refine tF 12 λK hK=>?_|(go_wp2_with fail;refine qJ (CP.o _ S.x.at) ?_;refine gM hK ?_;clear hK)|(refine bG S D8 bz rfl λE8 W S=>?_;refine gM hK ?_;clear hK)|(go_wp2_with fail;refine(C4.o _ S.x.at.ft S.fr).mono ?_;rintro e W ⟨r,rfl,hro,hp,hf⟩;have HF:=ae (aH hro);replace S:=S.pO (X':=kM G g D M s1) hf (λD e=>e) (λk hk=>.inl (by rw[gz.1 hk];simp)) (c8 G g D M s1) (λB h=>h.pl hf (by rw[gz];exact HGP.o.2.1) hp) hro rfl rfl;clear hro hf;obtain⟨ra,rc,rfl⟩:=HF.o;clear HF;refine gM hK ?_;clear hK)|(refine dL S 0 rfl rfl rfl HA1.o bd (aE _) λW S=>?_;refine gM hK ?_;clear hK)
 all_goals (
  refine ae ?_;by_cases g2:c=0
  case neg=>
   have g3: (c != 0)=true:=lh.2 g2;rw[bC g2] at HK;clear g2
   go_wp2_with (go_at_call 49;refine(mI c _).mono ?_;rintro e W ⟨rfl,rfl⟩;)
   go_ret;rw[HK.o];exact⟨g,s1,rfl,rfl,S.x.at,rfl,id,S.fr⟩
  subst g2;rw[bX (show ¬((0:Int)≠0) from λh=>h rfl)] at HK;have HK2:=ae (show T=DR y.id q1 old (g.gt s1) from HK.o);clear HK
  go_wp2_with (first|(go_at_call 81;refine(C5.o _ _ S.x.at S.q0).mono ?_;rintro e W hK;have HKR:=ae hK;clear hK;obtain⟨g3,s3,rfl,hP,hg,hgt3,hpp,hf⟩:=HKR.o;clear HKR;have hF:=S.fr.step hf (λD e=>e) (λk hk=>.inl hk);have HR:=ae (And.intro hP (And.intro hg (And.intro hgt3 hpp)));clear hP hg hgt3 hpp;rw[<-HK2.o])|refine fN ?_)
  go_ret;obtain⟨hP,hg,hgt3,hpp⟩:=HR.o;rw[<-HK2.o] at hgt3;exact⟨g3,s3,rfl,hP,hg,hgt3,hpp,hF⟩)
def EK (x:GT) (t:Pl×(aK×Int)):GT×(aK×Int):=
 if t.2.2≠0 then({x with s:=t.1},(aX,F8 t.2.2)) else({x with s:=t.1},(t.2.1,0))
def BI (x:GT) (i:Int) (v:cu×Int):GT×(aK×Int):=
 if v.2≠0 then(x,(aX,v.2)) else EK x (pW x.s v.1.root i)
def qH (full:lf) (i:Int) (x:GT):GT×(aK×Int):=if x.s.dv.dead=true then(x,(aX,42)) else BI x i (qQ x.b full i)
theorem Xv (h:ct b)(full:lf)(i:Int):oV (qQ b full i).1:=by
 unfold qQ;simp only;split
 . exact j9
 split
 . exact j9
 split
 . exact j9
 . exact Ot h.ok _
theorem LP (U D:Nat)(x:GT)(hx:Bz x)(full:lf)(hfu:full.size<=1000000)(i:Int)(w:aD)(h:cY w U D x):
 Calls prog 13 #[.pointer (some ⟨U,0,none⟩),.string full,.int .i64 i] w λe w'=>∃B,e=.returned (.tuple #[.agg B,.int .i64 (qH full i x).2.2])/\B=ah 128 (aw (qH full i x).2.1)/\cY w' U D (qH full i x).1/\Fr (some D) [] w w':=by
 obtain⟨G,g,M,h,hgt,hpar⟩:=h;have HPAR:=ae hpar;obtain⟨s,hs⟩:=cM x.s;rw[hs] at h hgt;obtain rfl:=hgt;have S:=St.start w (some D) [] (eP U G g D M s) h.x;have C1:=ae λW (X:nR W U G g D M s)=>vu U G D M g s W X;have CP:=ae λW (X:bw W G g D M s)=>j8 G D M g s W X;have C2:=ae λW (X:bw W G g D M s)=>gh G D M g s hx.text.fit W X;have C3:=ae λ(c:bx) (B:iw) (hB:B=ah 2 (bg c)) (hc:c.t=g.b.t) W (R:dN W c)=>(show Calls prog 47 #[.agg B,.string full,.int .i64 i] W λe w'=>∃B,e=.returned (.tuple #[.agg B,.int .i64 (qQ g.b.t full i).2])/\rX w' W.heap.size B (qQ g.b.t full i).1/\dp W w' from by rw[<-hc];exact A8 c B hB (by rw[hc];exact hx.text.fit) full hfu i W R);have C4:=ae λ(y:aZ) (hyr:bt y.root) W X=>NS g.P D M s y.root hyr i W X;have HV:=ae (Xv hx.text full i).2.2.1;have HK:=ae (show qH full i (g.gt s)=if s.dv.dead=true then(g.gt s,(aX,42)) else BI (g.gt s) i (qQ g.b.t full i) from rfl);obtain⟨T,hT⟩:=cM (qH full i (g.gt s));obtain⟨v,hv⟩:=cM (qQ g.b.t full i);obtain⟨dd,hdd⟩:=cM s.dv.dead;rw[show(g.gt s).b=g.b.t from rfl,hv] at HV;rw[hT,hv,hdd] at HK;rw[hT];rw[hv] at C3;rw[hdd] at C1;obtain⟨t0,cv⟩:=v;unfold BI at HK;simp only at C3 HV HK;have H0:=ae h.row;clear h hs hT hv hdd hx hpar;go_enter func13,ntmps13;cases dd with
 | true=>
  rw[bC rfl] at HK
  go_wp2_with (first|(go_at_call 46;refine qJ (C1.o _ S.x.at) ?_;)|(refine o7 ?_;rw[HK.o];exact⟨_,rfl,rfl,⟨G,g,M,S.x.at,rfl,HPAR.o⟩,S.fr⟩)|refine fN ?_|refine ew λW S=>?_)
 | false=>
  rw[bX nh] at HK
  go_upto_region 4 with(first|(go_at_call 46;refine qJ (C1.o _ S.x.at) ?_;)|((with_reducible refine pP ?_);refine BN (v:=bZ G 0) (ag.cell S.x.2 (i:=0) au) ?_)|(go_at_call 43;refine JZ S (C2.o _ S.x.at.A7) λW B c1 HB HC _ S=>?_)|(go_at_call 47;refine(C3.o c1 B HB.o HC.o _ ⟨S.q0,λx hx=>(S.x.2 x hx).1⟩).mono ?_;rintro e WV ⟨B2,rfl,⟨y,hB,hy,-⟩,hb⟩;have HB2:=ae hB;have HY:=ae hy;replace S:=S.below hb;clear hB hy)|refine ew λW S=>?_)
  by_cases g2:cv=0
  case neg=>
   have g3: (cv != 0)=true:=lh.2 g2;rw[bC g2] at HK;clear g2
   go_wp2_with (first|(refine o7 ?_;rw[HK.o];exact⟨_,rfl,rfl,⟨G,g,M,S.x.1.at,rfl,HPAR.o⟩,S.fr⟩)|refine fN ?_|refine ew λW S=>?_)
  subst g2;rw[bX (show ¬((0:Int)≠0) from λh=>h rfl),<-HY.o] at HK;have hyr:bt y.root:=by have h1:=HV.o;rw[<-HY.o] at h1;exact h1
  have C4:=ae (C4.o y hyr);obtain⟨t,htr⟩:=cM (pW s y.root i);rw[show y.tocu.root=y.root from rfl,show(g.gt s).s=s from rfl,htr] at HK;rw[htr] at C4;obtain⟨s1,sec,c⟩:=t;unfold EK at HK;simp only at C4 HK;obtain⟨AQ,hAQ⟩:=gq (ah 3 (aN y.root));rw[az hAQ] at C4;have HAQ:=ae hAQ;clear hyr htr hAQ
  go_upto_region 6 with(fail)
  refine bf S cm [⟨WV.heap.size,109,11,dy y⟩] L9 λW S=>?_;refine bp 0 30 _ ?_;refine bp 1 31 (bZ U 0) ?_;refine bp 2 32 (bZ U 0) ?_;refine gY 3 33 (bZ G 0) rfl (bP (λw h=>ag.cell (ag.fr H0.o h.fr (.inr rfl) (.inr fh)) (i:=0) au) rfl vS) ?_;refine bp 5 35 (bZ WV.heap.size 7) ?_;refine gY 6 36 (.agg AQ) rfl (Wz (λw h=>h.row 0 rfl) (o:=7) (m:=3) rfl (aN y.root) (show 7+3<=11 by decide) (rz y) HAQ.o bd) ?_;refine bp 7 37 _ ?_
  repeat' first|refine Zf ?_|refine qK 9 29 _ ?_|refine qK 10 39 (.agg B3) ?_|refine qK 11 40 (.int .i64 c) ?_|refine qK 14 9 _ ?_|refine JV 4 12 (λK hK=>?_) λK hK=>?_|refine JV 8 12 (λK hK=>?_) λK hK=>?_|refine tF 4 λK hK=>?_|refine tF 12 λK hK=>?_|refine tF 8 λK hK=>?_|refine tF 13 λK hK=>?_|(go_wp2_with fail;refine qJ (CP.o _ S.x.1.at.A7) ?_;refine gM hK ?_)|(refine bG S zeroValue36 ij rfl λE10 W S=>?_;refine gM hK ?_)|(go_wp2_with fail;refine(C4.o _ S.x.1.at.A7.ft).mono ?_;rintro e W ⟨B3,rfl,hB,hp,hf⟩;have HB3:=ae hB;replace S:=(S.call (X':=λB w=>rn U G g D M s1 B w/\jU c1.l B w) hf (λD e=>e) fh ((eP U G g D M s1).still (dF c1.l)) (λB h=>⟨⟨h.1.1.pl hf fh hp,ag.fr h.1.2 hf (.inr rfl) (.inr fh)⟩,(dF c1.l).fr h.2 hf⟩));clear hB;refine gM hK ?_)|(refine dL S 0 rfl rfl rfl HB3.o qk (bV _) λW S=>?_;refine gM hK ?_)
  all_goals (
   refine ae ?_;by_cases g2:c=0
   case neg=>
    have g3: (c != 0)=true:=lh.2 g2;rw[bC g2] at HK;clear g2
    go_wp2_with (first|(go_at_call 49;refine(mI c _).mono ?_;rintro e W ⟨rfl,rfl⟩;)|(refine o7 ?_;rw[HK.o];exact⟨_,rfl,rfl,⟨G,g,M,S.x.1.at,rfl,HPAR.o⟩,S.fr⟩)|refine fN ?_|refine ew λW S=>?_)
   subst g2;rw[bX (show ¬((0:Int)≠0) from λh=>h rfl)] at HK
   go_wp2_with (first|(refine o7 ?_;rw[HK.o];exact⟨_,rfl,rfl,⟨G,g,M,S.x.1.at,rfl,HPAR.o⟩,S.fr⟩)|refine fN ?_|refine ew λW S=>?_)
   )
theorem St.YZ {G:Nat}{g2:dK}{b:Nat}(S:St w (some D) [K] [⟨b,118,n,f⟩] [] (λB w=>rn K G g D M s B w/\kM G2 g2 D M2 s B w) w1)(hN: (w.heap.size<=G2/\w.heap.size<=g2.P/\w.heap.size<=M2)/\K<w.heap.size/\G<w.heap.size/\g.P<w.heap.size/\M<w.heap.size)(hP:g3.P=g2.P)(hg:bw w2 G2 g3 D M2 s2)(hf:Fr (some D) [G2,M2,g2.P] w1 w2):
 St w (some D) [K] [⟨b,118,n,f⟩] [] (λB w=>rn K G g D M {s with dv:=s2.dv} B w/\kM G2 g3 D M2 s2 B w) w2:=by
 obtain⟨⟨n1,n2,n3⟩,k1,k2,k3,k4⟩:=hN;have hno: ∀k,k<w.heap.size->k∉ [G2,M2,g2.P]:=λk hk hm=>by
  grind
 have hold:=bw.beside S.x.1.1.at hg hf (hno G k2) (hno M k4) (hno _ k3);have hr:ag w2 b 118 n f:=ag.fr S.k0 hf (.inr rfl) (.inl rfl);have hB: ∀k∈bE [⟨b,118,n,f⟩] [],k=b:=λk hk=>by grind[bE]
 refine S.Bt hf (λD e=>e) (λk hk=>?_) ((eP K G g D M _).and (c8 G2 g3 D M2 s2)) ⟨⟨hold.xB λk hk=>?_,ag.fr S.x.1.2 hf (.inr rfl) (.inr (hno K k1))⟩,hg.xB λk hk=>?_⟩
 . grind
 . rw[hB k hk,ag.ty hr];grind
 . rw[hB k hk,ag.ty hr];grind
theorem rn.swap (hr:ag w K 101 1 f)(hx:kM G2 g3 D M2 s2 B w)(hb:ek K w w2)(hr2:ag w2 K 101 1 (λ_=>.pointer (some ⟨G2,0,none⟩))):rn K G2 g3 D M2 s2 B w2:=by
 have hf:Fr none [K] w w2:=Fr.me hb (ag.ty hr) rfl (gz.2 rfl);have hG:G2∉ [K]:=λhm=>lT (ag.ty hx.1.1.2) (ag.ty hr) nh (gz.1 hm);have hP:g3.P∉ [K]:=λhm=>lT (ag.ty hx.1.1.1.row) (ag.ty hr) nh (gz.1 hm);have hM:M2∉ [K]:=λhm=>lT (ag.ty hx.1.1.1.map) (ag.ty hr) nh (gz.1 hm);exact⟨hx.pl hf hG (bH.fr hx.1.1.1 hf hP hM),hr2⟩
theorem St.Se {G:Nat}(S:St w (some D) [K] L [] (λB w=>rn K G g D M s B w/\kM G2 g3 D M2 s2 B w) w1)(hb:ek K w1 w2)(hr:ag w2 K 101 1 (λ_=>.pointer (some ⟨G2,0,none⟩))):
 St w (some D) [K] L [] (rn K G2 g3 D M2 s2) w2:=
 S.wrote S.x.1.2 rfl hb (.inl (gz.2 rfl)) (eP K G2 g3 D M2 s2) (rn.swap S.x.1.2 S.x.2 hb hr)
theorem ke (K D:Nat)(x:GT)(hx:Bz x)(k:GT->GT×Int)(fn:Nat)(cb:iw)(eg: ∀args w,(callFunc fn args).run prog w=.ok (.enter fn args) w)(w:aD)(h:cY w K D x)(hc: ∀G M g W,Fr (some D) [K] w W->bw W G g D M x.s->g.gt x.s=x->Calls prog fn (#[.agg (ah 1 λ_=>.pointer (some ⟨G,0,none⟩))]++cb) W λe W'=>sd W W' G D M g (k x) e):
 Calls prog 50 #[.pointer (some ⟨K,0,none⟩),.func (.func fn) #[] cb] w λe w'=>e=.returned (.int .i64 (fq x k).2)/\cY w' K D (fq x k).1/\Fr (some D) [K] w w':=by
 obtain⟨G,g,M,h,hgt,hpar⟩:=h;have HPAR:=ae hpar;clear hpar;obtain⟨s,hs⟩:=cM x.s;rw[hs] at h hgt hc;have hb:g.b.t=x.b:=by rw[<-hgt];rfl
 have hh:g.held=x.held:=by rw[<-hgt];rfl
 have S:=St.start w (some D) [K] (eP K G g D M s) h.x;have C1:=ae λW (X:nR W K G g D M s)=>vu K G D M g s W X;have C2:=ae λW (X:bw W G g D M s)=>DH G D M g s (by rw[hb];exact hx.text.fit) (by rw[hh];exact kL hx.mZ (by decide)) W X;have C3:=ae λG2 M2 g2 (A:iw) (hA:A=ah 1 λ_=>Value.pointer (some ⟨G2,0,none⟩)) W hb X (hg:g2.gt s=g.gt s)=>(show Calls prog fn (#[.agg A]++cb) W λe W'=>sd W W' G2 D M2 g2 (k x) e from by rw[hA];exact hc G2 M2 g2 W hb X (hg.trans hgt));have HK:=ae (show fq x k=if s.dv.dead=true then(x,42) else zV x (k x) from by rw[<-hs];rfl);obtain⟨T,hT⟩:=cM (fq x k);obtain⟨r,hr⟩:=cM (k x);obtain⟨dd,hdd⟩:=cM s.dv.dead;rw[hT,hr,hdd] at HK;rw[hT];rw[hr] at C3;rw[hdd] at C1;have HS:=ae hs;have HGT:=ae hgt;have H0:=ae h;clear h hs hgt hc hb hh hT hr hdd hx;go_enter func50,ntmps50;cases dd with
 | true=>
  rw[bC rfl] at HK
  go_wp2_with (first|(go_at_call 46;refine(C1.o _ S.x.at).mono ?_;rintro e W ⟨rfl,rfl⟩;))
  go_ret;rw[HK.o];exact⟨rfl,⟨G,g,M,by rw[HS.o];exact S.x.at,by rw[HS.o];exact⟨HGT.o,HPAR.o⟩⟩,S.fr⟩
 | false=>
  rw[bX (by decide)] at HK;obtain⟨y,c⟩:=r;obtain rfl:=HGT.o;clear HGT HS
  go_upto_region 5 with(first|(with_reducible refine jr 16 118 5 S 0 HA.o ?_)|(with_reducible first|refine jb 5 118 S zeroValue118 U5 λW S=>?_|refine js 118 5 14 S 0 HA.o (λ_=>rfl) λW S=>?_)|(go_at_call 46;refine(C1.o _ S.x.at).mono ?_;rintro e W ⟨rfl,rfl⟩;)|((with_reducible refine pP ?_);refine BN (ag.cell S.x.2 (i:=0) au) ?_)|(go_at_call 58;refine(C2.o _ S.x.at.A7).mono ?_;rintro e W ⟨G2,g2,M2,rfl,hG2,hP2,hM2,hg,hgt,hb⟩;have HN:=ae (And.intro (And.intro hG2 (And.intro hP2 hM2)) (And.intro (ag.lt H0.o.row) (And.intro (ag.lt H0.o.A7.row) (And.intro (ag.lt H0.o.A7.ft.row) (ag.lt H0.o.A7.ft.map)))));have HGT2:=ae hgt;replace S:=(S.below hb).Us ((eP K G g D M s).and (c8 G2 g2 D M2 s)) ⟨(S.below hb).x,hg.x⟩;clear hG2 hP2 hM2 hg hgt hb;obtain⟨A,hA⟩:=gq (ah 1 (λ_=>Value.pointer (some ⟨G2,0,none⟩)));have HA:=ae hA;clear hA)|((with_reducible refine aY 14 118 ?_);refine eW (cells:=A) rfl (by rw[HA.o];kernel_rfl) ?_)|(show Calls _ _ _ _ _;refine(C3.o G2 M2 g2 A HA.o _ S.fr S.x.2.at HGT2.o).mono ?_;rintro e W2 hK;have HKR:=ae hK;clear hK;obtain⟨g3,s3,rfl,hP,hg,hgt3,hpp,hf⟩:=HKR.o;clear HKR;have HG3:=ae hgt3;have HPP:=ae hpp;clear hpp;have hS:=S.YZ HN.o hP hg hf;clear S hP hg hf hgt3;have S:=hS;clear hS))
  by_cases g5:c=0
  case neg=>
   have g4: (c != 0)=true:=lh.2 g5;unfold zV at HK;rw[bC g5] at HK;clear g5;go_wp2;go_ret;rw[HK.o];have hd:s3.dv=y.s.dv:=by rw[<-HG3.o];rfl
   have hx1:=S.x.1.at;rw[hd] at hx1;exact⟨rfl,⟨G,g,M,hx1,rfl,HPAR.o⟩,S.fr⟩
  subst g5;unfold zV at HK;rw[bX (show ¬((0:Int)≠0) from λh=>h rfl)] at HK;obtain rfl:=HG3.o;clear HG3
  go_wp2_with (first|(with_reducible refine jl 23 69 22 S 0 0 (.pointer (some ⟨G2,0,none⟩)) ?_)|((with_reducible refine aS 69 25 23 ?_);have hR:=S.x.1.2;have hg: ∀j,j<1->(λ_=>Value.pointer (some ⟨G2,0,none⟩):Nat->bh) j=if j=0 then Value.pointer (some ⟨G2,0,none⟩) else(λ_=>Value.pointer (some ⟨G,0,none⟩):Nat->bh) j:=λj hj=>(bC (show j=0 from Nat.lt_one_iff.1 hj)).symm;refine Xg hR 0 au rfl rfl rfl vS (λ_=>Value.pointer (some ⟨G2,0,none⟩)) hg ?_;clear hR hg;intro W9 hb hr;replace S:=S.Se hb hr;clear hb hr))
  go_ret;rw[HK.o];exact⟨rfl,⟨G2,g3,M2,S.x.at,rfl,HPP.o (by rw[show g2.held=g.held from iS GT.held HGT2.o];exact HPAR.o)⟩,S.fr⟩
def zW (st:Nat->Nat) (l:List Int):Nat->Nat:=l.foldl (λst i=>sX st i 1 2) st
theorem OD (st:Nat->Nat)(hk:k<l.length):zW st (l.take (k+1))=sX (zW st (l.take k)) l[k] 1 2:=by
 grind[zW,take_succ_eq_append_getElem]
theorem UD {b c:Nat}(h:br .i64 w (.slice (some ⟨b,0,none⟩) n c) l)(hb:ek M w w')(hM:b≠M):br .i64 w' (.slice (some ⟨b,0,none⟩) n c) l:=by
 obtain⟨ao,cap,h1,h2,h3,h4⟩:=h;refine⟨ao,cap,h1,h2,h3,λhne=>?_⟩;obtain⟨b',o,h5,h6,h7⟩:=h4 hne;rw[h5] at h1;simp only[mA,EZ,Addr.mk.injEq] at h1;obtain⟨⟨rfl,rfl,-⟩,-,-⟩:=h1;exact⟨b,0,h5,uj h6 hb.size,λj hj=>(show w'.cell? ⟨b,0+j,none⟩=w.cell? ⟨b,0+j,none⟩ from by simp[World.cell?,hb.block b h6 hM]).trans (h7 j hj)⟩
theorem OE (set:List (Int×Int))(v:bh)(M:Nat)(st:Nat->Nat)(w:aD)(hv:bK w v set)(hm:bU w M st):
 Calls prog 123 #[v,.func (.func 124) #[.pointer (some ⟨M,0,none⟩)] #[]] w λe w'=>e=.returned (.tuple #[])/\bU w' M (zW st (kq set))/\Fr none [M] w w':=by
 have eg: ∀args w,(callFunc 124 args).run prog w=.ok (.enter 124 args) w:=enters_of func124 cm rfl;have HM:=ae hm;have C1:=ae (Vk v set w hv);have C2:=ae VW;have HWF:=ae (show ∀x∈kq set,bT x from λx hx=>by
  unfold kq at hx;obtain⟨y,-,rfl⟩:=lY.1 hx;have:=y.isLt;unfold bT;omega)
 obtain⟨l,hl⟩:=cM (kq set);rw[hl] at C1 HWF ⊢;have HML:=ae (bU.lt hm);clear hm hv hl;go_enter func123,ntmps123
 go_upto_region 1 with(go_at_call 172;refine C1.o.mono ?_;rintro e W ⟨r,rfl,hi,⟨b,n,c,rfl,hb0⟩,hb⟩;have HI:=ae hi;have HB0:=ae hb0;have HB:=ae hb;clear hi hb0)
 obtain⟨rfl,hlen⟩:n=l.length/\l.length<=9223372036854775807:=by
  obtain⟨ao,cap,h1,h2,-⟩:=HI.o;simp only[mA] at h1;exact⟨h1.2.1,h2⟩
 have hbM:Hid (b≠M):=ae (by have h1:=HB0.o;have h2:=HML.o;omega)
 go_loopw [9] (λi wr=>∃k:Nat,k<=l.length/\i=.int .i64 k/\Hid (bU wr M (zW st (l.take k))/\br .i64 wr (.slice (s_ b 0) l.length c) l/\Fr none [M] w wr)) (λi _=>l.length - (intOf i).toNat)
 case atStart=>exact⟨0,au,rfl,ae ⟨HM.o.below HB.o,HI.o,Fr.xU HB.o _⟩⟩
 case round=>
  obtain⟨k,hk,rfl,hS⟩:=hrel;by_cases hlt:k<l.length
  . have hcell:Hid (wr.cell? ⟨b,k,none⟩=some (.int .i64 l[k])):=ae (by
     obtain⟨ao,cap,h1,h2,h3,h4⟩:=hS.o.2.1;obtain⟨b',o,h5,h6,h7⟩:=h4 (by intro h;rw[h] at hlt;exact absurd hlt fh);rw[h5] at h1;simp only[mA,EZ,Addr.mk.injEq] at h1;obtain⟨⟨rfl,rfl,-⟩,-,-⟩:=h1;rw[<-h7 k hlt];simp)
    have HX:=ae (HWF.o l[k] (tW hlt));have HT:=ae (OD st hlt);obtain⟨x,hx⟩:=cM (l[k]);rw[hx] at hcell HX HT;clear hx;have HLT:=ae hlt
    go_wp2_with (first
   |((with_reducible refine aG 12 3 11 ?_);refine bM (by simpa using hcell.o) rfl kX ?_)
   |(show Calls _ _ _ _ _;refine(C2.o M _ x HX.o _ hS.o.1).mono ?_;rintro e W2 ⟨rfl,hm,hb⟩;have HM2:=ae hm;have HB2:=ae hb;clear hm))
    go_roundw
    case rel=>exact⟨k+1,au,by go_num,ae ⟨by rw[HT.o];exact HM2.o,UD hS.o.2.1 HB2.o hbM.o,hS.o.2.2.step (Fr.me HB2.o (ag.ty hS.o.1) rfl (gz.2 rfl)) (λD e=>by cases e) (λk hk=>.inl hk)⟩⟩
    case measure=>have:=HLT.o;simp[intOf];omega
  . obtain rfl:k=l.length:=au;have HE:=ae (show l.take l.length=l from wh);go_wp2;refine Pf (Jv rfl _ _ _) rfl ?_;obtain⟨h1,h2,h3⟩:=hS.o;rw[HE.o] at h1;exact⟨rfl,h1,h3⟩
def tU (d:Dv):GT:=⟨⟨1,[]⟩,[],nL,⟨d,xR d.n,1,0⟩⟩
def iR (d:Dv):GT×Int:=if(d.n:Int)<64 then(tU d,191) else nF (tU d)
theorem GP:ct ⟨1,[]⟩:=⟨by decide,⟨by simp,λt h=>absurd h kz⟩,λs h=>absurd h kz⟩
def Xw (w:aD) (base D:Nat) (x:GT) (c:Int) (v:bh):Prop:=
 (c=0->∃G g M,v=.pointer (some ⟨G,0,none⟩)/\base<=G/\base<=g.P/\base<=M/\bw w G g D M x.s/\g.gt x.s=x/\cx g.held)/\(c≠0->v=.pointer none/\eU w D x.s.dv)
theorem I6 (D:Nat)(d:Dv)(ho:d.ops<=990000000)(w:aD)(a:eU w D d):
 Calls prog 93 #[.pointer (some ⟨D,0,none⟩)] w λe w'=>∃v,e=.returned (.tuple #[v,.int .i64 (iR d).2])/\Xw w' w.heap.size D (iR d).1 (iR d).2 v/\Fr (some D) [] w w':=by
 have S:=St.start w (some D) [] (dB D d) a;have hn:d.n<=1024:=by obtain⟨_,sb,nb,pv,h1⟩:=a;exact h1.mZ
 have C1:=ae λW (X:eU W D d)=>uw D d W X;have C2:=ae λW (hb:w.heap.size<=W.heap.size)=>(RE (d.n:Nat) (by unfold bT;omega) W).mono λe w' (h9:_/\_/\_)=>(show ∃k,e=.returned (bZ k 0)/\w.heap.size<=k/\bU w' k (xR d.n)/\dp W w' from⟨_,h9.1,hb,h9.2.1,h9.2.2⟩);have C3:=ae λM2 W (hb:w.heap.size<=W.heap.size)=>(wR D M2 1 0 W).mono λe w' (h9:_/\_/\_)=>(show ∃k,e=.returned (bZ k 0)/\w.heap.size<=k/\il w' k D M2 1 0/\dp W w' from⟨_,h9.1,hb,h9.2.1,h9.2.2⟩);have C4:=ae λG P2 M2 W (X:bw W G ⟨P2,⟨1,[],none,0⟩,[],none,0,nL⟩ D M2 (tU d).s)=>y7 G D M2 ⟨P2,⟨1,[],none,0⟩,[],none,0,nL⟩ (tU d).s GP bm fh ho W X;obtain⟨n,hnn⟩:=cM d.n;have HF:=ae (show iR d=if(n:Int)<64 then(tU d,191) else nF (tU d) from by rw[<-hnn];rfl);obtain⟨T,hT⟩:=cM (iR d);rw[hT] at HF ⊢;obtain⟨y,c⟩:=T;rw[hnn] at C1 C2 hn;clear a hT ho;go_enter func93,ntmps93;by_cases h1: (n:Int)<64
 case pos=>
  rw[bC h1] at HF;have d1:decide ((n:Int)<64)=true:=ly h1;clear h1
  go_wp2_with (go_at_call 84;refine qJ (C1.o _ S.x) ?_;)
  go_ret2;obtain⟨rfl,rfl⟩:=Prod.mk.inj HF.o;exact⟨_,rfl,⟨λh=>absurd (show(191:Int)=0 from h) nh,λ_=>⟨rfl,S.x⟩⟩,S.fr⟩
 rw[bX h1] at HF;have d1:decide ((n:Int)<64)=false:=iE h1;clear h1;have HNN:=ae hnn;clear hnn
 go_upto_region 5 with(first|(go_at_call 84;refine qJ (C1.o _ S.x) ?_;)|(go_at_call 86;refine(C2.o _ S.fr.size).mono ?_;rintro e W ⟨M2,rfl,hM2,hm,hb⟩;have HM2:=ae hM2;have HM:=ae hm;replace S:=(S.below hb).sq hm rfl;clear hm hb hM2)|(go_at_call 85;refine(C3.o M2 _ S.fr.size).mono ?_;rintro e W ⟨P2,rfl,hP2,hm,hb⟩;have HP2:=ae hP2;replace S:=(S.below hb).sq hm rfl;clear hm hb hP2)|((with_reducible refine aY 14 99 ?_);refine eW (cells:=#[.int .u64 1,.slice none 0 0]) rfl cm ?_)|((with_reducible refine aY 15 145 ?_);refine eW (cells:=ah 11 (p5 ⟨P2,⟨1,[],none,0⟩,[],none,0,nL⟩)) rfl cm ?_)|((with_reducible refine gT 16 145 15 ?_);refine Gz S rfl rfl rfl λG W hG S=>?_)|(go_at_call 122;refine(C4.o G P2 M2 _ ⟨S.x.2,⟨S.x.1.2,S.x.1.1.1,by rw[show(tU d).s.mp=xR n from by rw[<-HNN.o];rfl];exact S.x.1.1.2,⟨(show(1:Nat)<18446744073709551616 by decide),(show(0:Nat)<18446744073709551616 by decide)⟩⟩,⟨ar.nil _ _ _,λx hx=>absurd hx kz⟩,ar.nil _ _ _⟩).mono ?_;rintro e W ⟨g2,s2,rfl,hP,hg,hgt,hpl,hf⟩;have hF:=S.fr.step hf (λD e=>e) (λk hk=>by simp only[iI,kz,tZ] at hk;rcases hk with rfl | rfl | rfl;exact .inr hG;exact .inr HM2.o;exact .inr HP2.o);have HQ:=ae hP;clear hP;rw[show(dK.gt ⟨P2,⟨1,[],none,0⟩,[],none,0,nL⟩ (tU d).s)=tU d from rfl,<-HF.o] at hgt ⊢))
 by_cases g3:c=0
 case neg=>
  have g4: (c != 0)=true:=lh.2 g3;have HG3:=ae g3;have HX:=ae (And.intro hg hgt);clear g3 hg hgt hpl;go_wp2;go_ret2;exact⟨_,rfl,⟨λh=>absurd h HG3.o,λ_=>⟨rfl,by have h1:=HX.o.1.ft.dev;rw[show s2=y.s from by rw[<-show g2.gt s2=y from HX.o.2];rfl] at h1;exact h1⟩⟩,hF⟩
 subst g3;have HX:=ae (And.intro hg (And.intro hgt (hpl bm)));clear hg hgt hpl;go_wp2;go_ret2;obtain⟨hg,hgt,hpl⟩:=HX.o;obtain rfl:g2.gt s2=y:=hgt;exact⟨_,rfl,⟨λ_=>⟨G,g2,M2,rfl,hG,by rw[HQ.o];exact HP2.o,HM2.o,hg,rfl,hpl⟩,λh=>absurd rfl h⟩,hF⟩
def xE (d:Dv):GT:=⟨sa,[],nL,⟨d,λ_=>0,0,0⟩⟩
noncomputable def Cv (u:nu) (r:Pl×(cL×(List (Int×Int)×(List aq×Int)))):GT×Int:=
 if r.2.2.2.2≠0 then(xE r.1.dv,r.2.2.2.2) else
 if 281474976710652<u.lJ∨281474976710652<r.2.1.next∨281474976710652<u.ay then(xE r.1.dv,192) else
 (⟨r.2.1,r.2.2.2.1,u,⟨r.1.dv,zW r.1.mp (kq r.2.2.1),jW u.ay,u.ay⟩⟩,0)
noncomputable def yk (d:Dv) (o:Option nu):GT×Int:=
 if o.isSome=false then(xE d,91) else
 if(o.getD nL).fH≠d.n then(xE d,91) else
 if(o.getD nL).len≠40 then(xE d,91) else
 Cv (o.getD nL) (iu ⟨d,xR d.n,0,0⟩ (o.getD nL).table)
noncomputable def kK (d:Dv):GT×Int:=if d.dead=true then(xE d,42) else yk (eu d).1 (eu d).2
section
variable {w0:aD}{l:aK}{X X':aK->aD->Prop}
theorem St.aav (S:St w0 d l L O X w)(t:dD)(hL: ∀r∈L,r.t≠t)(hO: ∀o∈O,o.e≠t): ∀b∈bE L O,du w b≠some t:=by
 intro b hb e;rcases dx.1 hb with⟨r,hr,rfl⟩ | ⟨o,ho,e2⟩
 . rw[ag.ty (S.row r hr).1] at e;grind
 . rw[lP (S.own o ho).1 e2] at e;grind
theorem St.OG (S:St w0 d l L O X w)(h1:oQ w base c)(h2:dh w base q ps)(a1: ∀r∈L,r.t≠109)(a2: ∀r∈L,r.t≠106)(b1: ∀o∈O,o.e≠109)(b2: ∀o∈O,o.e≠106):
 St w0 d l L O (λB w=>(X B w/\rW c.sv c.l B w)/\qC 106 3 q ps.length (eo ps) B w) w:=
 (S.yu (fx c.sv c.l) ⟨⟨ar.aV h1.1,λhn b hb hm=>S.aav 109 a1 b1 b hm (ar.ty (ar.aV h1.1) hb hn)⟩,
  λx hx=>⟨(h1.2 x hx).1,λhn b hb hm=>S.aav 106 a2 b2 b hm (ar.ty (h1.2 x hx).1 hb hn)⟩⟩).yu (cz 106 3 q _ _ rfl rfl) ⟨ar.aV h2,λhn b hb hm=>S.aav 106 a2 b2 b hm (ar.ty (ar.aV h2) hb hn)⟩
end
theorem I7 (D:Nat)(d:Dv)(w:aD)(a:eU w D d):
 Calls prog 60 #[.pointer (some ⟨D,0,none⟩)] w λe w'=>∃v,e=.returned (.tuple #[v,.int .i64 (kK d).2])/\Xw w' w.heap.size D (kK d).1 (kK d).2 v/\Fr (some D) [] w w':=by
 have S:=St.start w (some D) [] (dB D d) a;have C1:=ae λW (X:eU W D d)=>KC D d W X;have C2:=ae λW (X:eU W D d)=>KV D d W X;obtain⟨T,hT⟩:=cM (kK d);have HF:=ae (show(if d.dead=true then(xE d,42) else yk (eu d).1 (eu d).2)=T from by rw[<-hT];rfl);have hub:=(xu d a.1.nw).2.2;obtain⟨d1,hd1⟩:=cM ((eu d).1);obtain⟨o,ho⟩:=cM ((eu d).2);obtain⟨dd,hdd⟩:=cM d.dead;rw[hT];rw[hd1,ho,hdd] at HF;rw[hd1,ho] at C2;rw[hdd] at C1;rw[ho] at hub;clear a hT hd1 ho hdd;go_enter func60,ntmps60;cases dd with
 | true=>
  rw[bC rfl] at HF
  go_wp2_with (go_at_call 82;refine qJ (C1.o _ S.x) ?_;)
  go_ret2;rw[<-HF.o];exact⟨_,rfl,⟨λh=>absurd (show(42:Int)=0 from h) nh,λ_=>⟨rfl,S.x⟩⟩,S.fr⟩
 | false=>
  rw[bX nh] at HF;obtain⟨u,hu⟩:=cM (o.getD nL);obtain⟨th,hth⟩:=cM o.isSome;unfold yk at HF;rw[hu,hth] at C2 HF;rw[hu] at hub;have HU:=ae hub;clear hu hth hub
  go_upto_region 4 with(first|(go_at_call 82;refine qJ (C1.o _ S.x) ?_;)|(go_at_call 83;refine(C2.o _ S.x).mono ?_;rintro e WK ⟨U,rfl,hU,hd,hf⟩;have HUU:=ae hU;replace S:=S.call hf (λD e=>e) fh (dB D d1) (λB h=>hd);clear hU hd)|refine ew λW S=>?_)
  have C3:=ae λW (X:eU W D d1)=>uw D d1 W X;obtain⟨n,HN⟩:=qI d1.n;have hn4:n<=1024:=by rw[<-HN.o];obtain⟨_,sb,nb,pv,h1⟩:=S.x;exact h1.mZ
  rw[HN.o] at C3 HF;cases th with
  | false=>
   rw[bC rfl] at HF;obtain rfl:=HF.o;refine bL S cm λW S=>?_;refine bp 0 18 _ ?_;refine bp 1 19 (.bool true) ?_;refine bp 2 20 _ ?_;refine vX 3 21 ?_;refine vX 4 22 ?_;refine vX 5 23 ?_;refine vX 6 24 ?_;refine vX 7 25 ?_;refine bp 8 26 (.bool true) ?_;refine bp 9 27 _ ?_;refine vX 10 28 ?_;refine vX 11 29 ?_;refine vX 12 30 ?_;refine bp 13 31 (.bool true) ?_;refine uy ?_;go_wp2;go_ret2;exact⟨_,rfl,⟨λh=>absurd (show(91:Int)=0 from h) nh,λ_=>⟨rfl,S.x⟩⟩,S.fr⟩
  | true=>
   rw[bX nh] at HF;by_cases q1:u.fH=n
   case neg=>
    have e1: ((u.fH:Int) !=(n:Int))=true:=by rw[lh];omega
    rw[bC q1] at HF;obtain rfl:=HF.o;clear q1;refine bL S cm λW S=>?_;refine bp 0 18 _ ?_;refine bp 1 19 (.bool false) ?_;refine bp 2 20 _ ?_;refine bp 3 21 (bZ WK.heap.size 6) ?_;refine bp 4 22 (.int .i64 u.fH) ?_;refine bp 5 23 _ ?_;refine mO 6 λK hK=>?_
    go_wp2_with fail
    refine qJ (C3.o _ S.x) ?_;refine gM hK ?_;refine bp 7 25 (.bool true) ?_;refine bp 8 26 (.bool true) ?_;refine bp 9 27 _ ?_;refine vX 10 28 ?_;refine vX 11 29 ?_;refine vX 12 30 ?_;refine bp 13 31 (.bool true) ?_;refine uy ?_;go_wp2;go_ret2;exact⟨_,rfl,⟨λh=>absurd (show(91:Int)=0 from h) nh,λ_=>⟨rfl,S.x⟩⟩,S.fr⟩
   rw[bX (λh=>h q1)] at HF;have e1: ((u.fH:Int) !=(n:Int))=false:=by rw[DY,q1]
   clear q1;by_cases q2:u.len=40
   case neg=>
    have e2: ((u.len:Int) != 40)=true:=by rw[lh];omega
    rw[bC q2] at HF;obtain rfl:=HF.o;clear q2;refine bL S cm λW S=>?_;refine bp 0 18 _ ?_;refine bp 1 19 (.bool false) ?_;refine bp 2 20 _ ?_;refine bp 3 21 (bZ WK.heap.size 6) ?_;refine bp 4 22 (.int .i64 u.fH) ?_;refine bp 5 23 _ ?_;refine mO 6 λK hK=>?_
    go_wp2_with fail
    refine qJ (C3.o _ S.x) ?_;refine gM hK ?_;refine bp 7 25 (.bool false) ?_;refine bp 8 26 (.bool false) ?_;refine bp 9 27 _ ?_;refine bp 10 28 (bZ WK.heap.size 5) ?_;refine bp 11 29 (.int .i64 u.len) ?_;refine bp 12 30 (.bool true) ?_;refine bp 13 31 (.bool true) ?_;refine uy ?_;go_wp2;go_ret2;exact⟨_,rfl,⟨λh=>absurd (show(91:Int)=0 from h) nh,λ_=>⟨rfl,S.x⟩⟩,S.fr⟩
   rw[bX (λh=>h q2)] at HF;have e2: ((u.len:Int) != 40)=false:=by rw[DY,q2];rfl
   clear q2;refine bL S cm λW S=>?_;refine bp 0 18 _ ?_;refine bp 1 19 (.bool false) ?_;refine bp 2 20 _ ?_;refine bp 3 21 (bZ WK.heap.size 6) ?_;refine bp 4 22 (.int .i64 u.fH) ?_;refine bp 5 23 _ ?_;refine mO 6 λK hK=>?_
   go_wp2_with fail
   refine qJ (C3.o _ S.x) ?_;refine gM hK ?_;refine bp 7 25 (.bool false) ?_;refine bp 8 26 (.bool false) ?_;refine bp 9 27 _ ?_;refine bp 10 28 (bZ WK.heap.size 5) ?_;refine bp 11 29 (.int .i64 u.len) ?_;refine bp 12 30 (.bool false) ?_;refine bp 13 31 (.bool false) ?_;refine uy ?_;have C4:=ae λW (hb:w.heap.size<=W.heap.size)=>(RE (n:Nat) (by unfold bT;omega) W).mono λe w' (h9:_/\_/\_)=>(show ∃k,e=.returned (bZ k 0)/\w.heap.size<=k/\bU w' k (xR n)/\dp W w' from⟨_,h9.1,hb,h9.2.1,h9.2.2⟩);have C5:=ae λM2 (a b:Nat) W (hb:w.heap.size<=W.heap.size)=>(wR D M2 a b W).mono λe w' (h9:_/\_/\_)=>(show ∃k,e=.returned (bZ k 0)/\w.heap.size<=k/\il w' k D M2 a b/\dp W w' from⟨_,h9.1,hb,h9.2.1,h9.2.2⟩);have C6:=ae λP2 M2 W (X:bH W P2 D M2 ⟨d1,xR n,0,0⟩)=>Lz P2 D M2 ⟨d1,xR n,0,0⟩ u.table HU.o.2.2.1 W X;obtain⟨A,hA⟩:=gq (ah 3 (aN u.table));rw[az hA] at C6;have HA:=ae hA;obtain⟨r,hr⟩:=cM (iu ⟨d1,xR n,0,0⟩ u.table);rw[hr] at C6 HF;obtain⟨s2,bk,sp,ps,c⟩:=r;simp only at C6;have hus:ll u.ay:=HU.o.2.1;have HUS:=ae hus;obtain⟨n3,hn3⟩:=cM (jW u.ay);have w1:IntKind.u64.wrap ((u.ay:Int)+1)=((n3:Nat):Int):=by rw[<-hn3];exact pV _
   unfold Cv at HF;simp only at HF;rw[hn3] at HF;have HN3:=ae (show ll n3 by rw[<-hn3];exact wT _);clear hA hr hus hn3
   go_upto_region 7 with(first|(go_at_call 84;refine qJ (C3.o _ S.x) ?_;)|(go_at_call 86;refine(C4.o _ S.fr.size).mono ?_;rintro e W ⟨M2,rfl,hM2,hm,hb⟩;have HM2:=ae hM2;replace S:=(S.below hb).sq hm rfl;clear hm hb hM2))
   refine bf S cm [⟨WK.heap.size,143,7,gg u⟩] L9 λW S=>?_;refine bp 0 36 _ ?_;refine bp 1 37 _ ?_;refine bp 3 39 (bZ WK.heap.size 2) ?_;refine gY 4 40 (.agg A) rfl (Wz (λw h=>h.row 0 rfl) (o:=2) (m:=3) rfl (aN u.table) (show 2+3<=7 by decide) (λi hi=>Dm i hi) HA.o bd) ?_
   repeat' first|refine Zf ?_|refine qK 6 35 _ ?_|refine qK 7 42 (.agg B) ?_|refine qK 8 43 (.slice ra sp.length rc) ?_|refine qK 9 44 (.slice qa ps.length qc) ?_|refine qK 10 45 (.int .i64 c) ?_|refine qK 13 8 _ ?_|refine qK 14 9 _ ?_|refine qK 15 10 _ ?_|refine JV 2 11 (λK hK=>?_) λK hK=>?_|refine tF 2 λK hK=>?_|refine tF 5 λK hK=>?_|refine tF 12 λK hK=>?_|refine JV 5 11 (λK hK=>?_) λK hK=>?_|refine tF 11 λK hK=>?_|(refine bG S yo dM rfl λE9 W S=>?_;refine gM hK ?_)|(go_wp2_with fail;refine(C5.o M2 0 0 _ S.fr.size).mono ?_;rintro e W ⟨P2,rfl,hP2,hm,hb⟩;have HP2:=ae hP2;replace S:=((S.below hb).sq hm rfl).vP (X':=Ae P2 D M2 ⟨d1,xR n,0,0⟩) (λB w h=>⟨h.2,h.1.1,h.1.2,⟨(show(0:Nat)<18446744073709551616 by decide),(show(0:Nat)<18446744073709551616 by decide)⟩⟩) (bu P2 D M2 _);clear hm hb hP2;refine gM hK ?_)|(go_wp2_with fail;refine(C6.o P2 M2 _ S.x).mono ?_;rintro e W ⟨B,r,q,rfl,⟨c1,hB,hc,hob⟩,hos,hss,hop,hpp,hp,hf⟩;have HB:=ae hB;have HC:=ae hc;have HPP:=ae hpp;have HSP:=ae (And.intro (show ∀x∈sp,bT x.1/\bT x.2 from by obtain⟨_,_,_,_,h9,_⟩:=hss;exact h9) (show sp.length<=9223372036854775807 from by obtain⟨_,_,_,h9,_⟩:=hss;exact h9));have HF1:=ae (aH hos);have HF2:=ae (aH hop);replace S:=(S.pO hf (λD e=>e) fh (bu P2 D M2 s2) (λB h=>hp) hos rfl rfl).OG hob hop fh fh fh fh;clear hB hc hob hos hss hop hpp;obtain⟨ra,rc,rfl⟩:=HF1.o;obtain⟨qa,qc,rfl⟩:=HF2.o;clear HF1 HF2;refine gM hK ?_)|(refine dL S 0 rfl rfl rfl HB.o fe (aT _) λW S=>?_;refine gM hK ?_)
   all_goals (
    refine ae ?_;obtain rfl:=HC.o;clear HC;by_cases g2:c=0
    case neg=>
     have g3: (c != 0)=true:=lh.2 g2;have HCN:=ae g2;rw[bC g2] at HF;obtain rfl:=HF.o;clear g2;go_wp2;go_ret2;exact⟨_,rfl,⟨λh=>absurd h HCN.o,λ_=>⟨rfl,S.x.1.1.dev⟩⟩,S.fr⟩
    subst g2;rw[bX (show ¬((0:Int)≠0) from λh=>h rfl)] at HF;have HCN:Hid (¬(192:Int)=0):=ae nh;by_cases m1:281474976710652<u.lJ
    case pos=>
     have i1:decide ((281474976710652:Int)< (u.lJ:Int))=true:=ly au;rw[bC (.inl m1)] at HF;obtain rfl:=HF.o;clear m1
     go_wp2_with (with_reducible refine jl 50 82 49 S 1 0 (.int .u64 u.lJ) ?_)
     go_ret2;exact⟨_,rfl,⟨λh=>absurd h HCN.o,λ_=>⟨rfl,S.x.1.1.dev⟩⟩,S.fr⟩
    have i1:decide ((281474976710652:Int)< (u.lJ:Int))=false:=iE au;by_cases m2:281474976710652<c1.next
    case pos=>
     have i2:decide ((281474976710652:Int)< (c1.next:Int))=true:=ly au;rw[bC (.inr (.inl m2))] at HF;obtain rfl:=HF.o;clear m1 m2
     go_wp2_with (first
   |(with_reducible first|refine jl 50 82 49 S 1 0 (.int .u64 u.lJ) ?_|refine jm 54 82 53 S 0 0 (.int .u64 c1.next) ?_))
     go_ret2;exact⟨_,rfl,⟨λh=>absurd h HCN.o,λ_=>⟨rfl,S.x.1.1.dev⟩⟩,S.fr⟩
    have i2:decide ((281474976710652:Int)< (c1.next:Int))=false:=iE au;by_cases m3:281474976710652<u.ay
    case pos=>
     have i3:decide ((281474976710652:Int)< (u.ay:Int))=true:=ly au;rw[bC (.inr (.inr m3))] at HF;obtain rfl:=HF.o;clear m1 m2 m3
     go_wp2_with (first
   |(with_reducible first|refine jl 50 82 49 S 1 0 (.int .u64 u.lJ) ?_|refine jm 54 82 53 S 0 0 (.int .u64 c1.next) ?_|refine jm 59 82 58 S 1 1 (.int .u64 u.ay) ?_))
     go_ret2;exact⟨_,rfl,⟨λh=>absurd h HCN.o,λ_=>⟨rfl,S.x.1.1.dev⟩⟩,S.fr⟩
    have i3:decide ((281474976710652:Int)< (u.ay:Int))=false:=iE au;rw[bX (λh=>h.elim m1 λh=>h.elim m2 m3)] at HF;obtain rfl:=HF.o;clear m1 m2 m3;have C7:=ae λv W hv (X:bU W M2 s2.mp)=>OE sp v M2 s2.mp W hv X
    go_upto_region 13 with(first
   |(with_reducible first|refine jl 50 82 49 S 1 0 (.int .u64 u.lJ) ?_|refine jm 54 82 53 S 0 0 (.int .u64 c1.next) ?_|refine jm 59 82 58 S 1 1 (.int .u64 u.ay) ?_)
   |(go_at_call 123;refine(C7.o _ _ (qe S.o0 HSP.o.1 HSP.o.2) S.x.1.1.map).mono ?_;rintro e W ⟨rfl,hm,hf⟩;have hPM:P2≠M2:=lT (ag.ty S.x.1.1.row) (ag.ty S.x.1.1.map) nh;replace S:=S.call (X':=λB w=>(Ae P2 D M2 {s2 with mp:=zW s2.mp (kq sp)} B w/\rW c1.sv c1.l B w)/\qC 106 3 (.slice qa ps.length qc) ps.length (eo ps) B w) hf (λD e=>by cases e) (λk hk=>.inr (by rw[gz.1 hk];exact HM2.o)) (((bu P2 D M2 _).still (fx c1.sv c1.l)).still (cz 106 3 _ _ _ rfl rfl)) (λB h=>⟨⟨⟨ag.fr h.1.1.row hf (.inl rfl) (.inr (λh9=>hPM (gz.1 h9))),h.1.1.dev.fr hf,hm,h.1.1.ok⟩,(fx c1.sv c1.l).fr h.1.2 hf⟩,(cz 106 3 _ _ _ rfl rfl).fr h.2 hf⟩);clear hm hPM))
    refine bf S cm [⟨E9,99,2,bg c1⟩,⟨WK.heap.size,143,7,gg u⟩] L9 λW S=>?_;refine bp 0 66 _ ?_;refine bp 1 67 _ ?_;refine bp 2 68 (bZ WK.heap.size 1) ?_;refine bp 3 69 (.int .u64 u.ay) ?_;refine bp 4 70 (.int .u64 n3) ?_;refine bp 5 71 (bZ WK.heap.size 1) ?_;refine bp 6 72 (.int .u64 u.ay) ?_;refine gY 8 74 (.agg B) rfl (lq (λw h=>h.row 0 rfl) rfl HB.o fe) ?_;refine bp 9 75 _ ?_;refine gY 10 76 (.agg U) rfl (lq (λw h=>h.row 1 rfl) rfl HUU.o s9) ?_;refine mO 7 λK hK=>?_
    go_wp2_with fail
    refine(C5.o M2 n3 u.ay _ S.fr.size).mono ?_;rintro e W ⟨P3,rfl,hP3,hm,hb⟩;have HP3:=ae hP3;replace S:=(S.below hb).sq hm rfl;clear hm hb hP3;refine gM hK ?_;refine gY 11 77 (.agg (ah 11 (p5 ⟨P3,c1,ps,qa,qc,u⟩))) rfl (pf rfl (by rw[HB.o,HUU.o];kernel_rfl)) ?_;refine mO 12 λK hK=>?_;refine Ol S rfl rfl rfl λG W hG S=>?_;refine gM hK ?_;refine bp 13 2 _ ?_;refine bp 14 3 _ ?_;refine uy ?_;go_wp2;go_ret2;exact⟨_,rfl,⟨λ_=>⟨G,⟨P3,c1,ps,qa,qc,u⟩,M2,rfl,hG,HP3.o,HM2.o,⟨S.x.2,⟨S.x.1.2,S.x.1.1.1.1.dev,S.x.1.1.1.1.map,⟨HN3.o,HUS.o⟩⟩,S.x.1.1.1.2.sl,S.x.1.1.2.1⟩,rfl,HPP.o⟩,λh=>absurd rfl h⟩,S.fr⟩)
theorem OH (G D M:Nat)(g:dK)(s:Pl)(ht:ct g.b.t)(hl:g.held.length<=100000)(full:lf)(hfu:full.size<=1000000)(n:Int)(c1 c2:Nat)(w:aD)(h:bw w G g D M s)(hc1:ag w c1 9 1 (λ_=>.string full))(hc2:ag w c2 3 1 (λ_=>.int .i64 n)):
 Calls prog 76 (#[.agg (ah 1 λ_=>.pointer (some ⟨G,0,none⟩))]++ #[.pointer (some ⟨c1,0,none⟩),.pointer (some ⟨c2,0,none⟩)]) w λe w'=>sd w w' G D M g (oW full n (g.gt s)) e:=by
 show Calls prog 76 #[.agg (ah 1 λ_=>bZ G 0),bZ c1 0,bZ c2 0] w _;obtain⟨A,hA⟩:=gq (ah 1 (λ_=>bZ G 0));rw[<-hA];have HA:=ae hA;have S:=St.start w (some D) [G,M,g.P] (c8 G g D M s) h.x;have C1:=ae λW (X:bw W G g D M s)=>tM G D M g s A hA ht.fit W X;have C2:=ae λW (X:bw W G g D M s)=>gh G D M g s ht.fit W X;have C3:=ae λ(c:bx) (B:iw) (hB:B=ah 2 (bg c)) (hc:c.t=g.b.t) W (R:dN W c)=>(show Calls prog 77 #[.agg B,.string full,.int .i64 n] W λe w'=>∃B,e=.returned (.tuple #[.agg B,.int .i64 (fz g.b.t full n).2])/\gF w' W.heap.size B (fz g.b.t full n).1/\dp W w' from by rw[<-hc];exact F1 c B hB (by rw[hc];exact ht.fit) full hfu n W R);have htr:=vT ht full n;have HK:=ae (show oW full n (g.gt s)=if 281474976710651<g.b.next then(g.gt s,192) else xx (g.gt s) (fz g.b.t full n) from rfl);obtain⟨T,hT⟩:=cM (oW full n (g.gt s));obtain⟨r,hr⟩:=cM (fz g.b.t full n);rw[hT,hr] at HK;rw[hT];rw[hr] at C3 htr;obtain⟨b2,c⟩:=r;simp only at C3 htr;have C4:=ae λ(c2:bx) (B:iw) (hB:B=ah 2 (bg c2)) (hc:c2.t=b2) W (X:bw W G g D M s) R=>nT G D M g s c2 B hB (by rw[hc];exact htr.fit) W X R;have C5:=ae λ(c3:bx) (hc:c3.t=b2) W (X:bw W G {g with b:=c3} D M s)=>(show yr 57 #[.agg A] W (.int .i64 (DQ (se (g.gt s) b2))) from by rw[<-hc];exact tj G D M {g with b:=c3} s A hA (show ct c3.t by rw[hc];exact htr) W X (kL hl nh));have Hc1:=ae hc1;have Hc2:=ae hc2;clear h hA ht hl hT hr htr hc1 hc2;go_enter func76,ntmps76;by_cases hm:281474976710651<g.b.next
 case pos=>
  rw[bC hm] at HK;have dm:decide (281474976710651<g.b.next)=true:=ly hm;clear hm
  go_wp2_with (first|(go_at_call 53;refine je S (C1.o _ S.x.at) λW S=>?_)|refine fN ?_|refine ew λW S=>?_)
  go_ret;rw[HK.o];exact⟨g,s,rfl,rfl,S.x.at,rfl,id,S.fr⟩
 rw[bX hm] at HK;have dm:decide (281474976710651<g.b.next)=false:=iE hm;clear hm
 go_upto_region 3 with(first|(go_at_call 53;refine je S (C1.o _ S.x.at) λW S=>?_)|refine fN ?_|refine ew λW S=>?_)
 refine bf S cm [⟨w.heap.size,118,1,λ_=>bZ G 0⟩] L9 λW S=>?_;refine bp 0 10 (bZ w.heap.size 0) ?_;refine bp 1 11 (bZ G 0) ?_;refine gY 3 13 (.string full) rfl (bP (λw h=>ag.cell (ag.fr Hc1.o h.fr (.inr rfl) (.inl rfl)) (i:=0) au) rfl pY) ?_;refine gY 4 14 (.int .i64 n) rfl (bP (λw h=>ag.cell (ag.fr Hc2.o h.fr (.inr rfl) (.inl rfl)) (i:=0) au) rfl kX) ?_
 repeat' first|refine Zf ?_|refine qK 6 9 _ ?_|refine qK 7 16 (.agg B2) ?_|refine qK 8 17 (.int .i64 c) ?_|refine qK 11 6 _ ?_|refine JV 2 9 (λK hK=>?_) λK hK=>?_|refine tF 2 λK hK=>?_|refine tF 5 λK hK=>?_|refine tF 10 λK hK=>?_|refine JV 5 9 (λK hK=>?_) λK hK=>?_|refine tF 9 λK hK=>?_|(refine bG S yo dM rfl λE9 W S=>?_;refine gM hK ?_)|(go_wp2_with fail;refine(C2.o _ S.x.at).mono ?_;rintro e W ⟨B,rfl,⟨c1,hB,hc,ho⟩,hb⟩;have HB:=ae hB;have HC:=ae hc;replace S:=S.bB hb ho;clear hB hc;refine gM hK ?_)|(go_wp2_with fail;refine(C3.o c1 B HB.o HC.o _ ⟨S.q0,λx hx=>(S.x.2 x hx).1⟩).mono ?_;rintro e W ⟨B2,rfl,⟨c2,hB,hc,ho⟩,hb⟩;have HB2:=ae hB;have HC2:=ae hc;replace S:=S.bB hb ho;clear hB hc;refine gM hK ?_)|(refine dL S 0 rfl rfl rfl HB2.o fe (aT _) λW S=>?_;refine gM hK ?_)
 all_goals (
  refine ae ?_;unfold xx at HK;simp only at HK;by_cases g2:c=0
  case neg=>
   have g3: (c != 0)=true:=lh.2 g2;rw[bC g2] at HK;clear g2;go_wp2;go_ret;rw[HK.o];exact⟨g,s,rfl,rfl,S.x.1.1.at,rfl,id,S.fr⟩
  subst g2;rw[bX (show ¬((0:Int)≠0) from λh=>h rfl)] at HK
  go_wp2_with (first|(go_at_call 55;refine(C4.o c2 B2 HB2.o HC2.o _ S.x.1.1.at ⟨S.q0,λx hx=>(S.x.2 x hx).1⟩).mono ?_;rintro e W ⟨c3,rfl,hc,hg,ho,hf⟩;have HC3:=ae (hc.trans HC2.o);replace S:=(S.vP (λB w h=>h.1.1) (c8 G g D M s)).QT hg ho hf (.inl fh);clear hc hg)|(go_at_call 57;refine je S (C5.o c3 HC3.o _ S.x.at) λW S=>?_)|refine fN ?_)
  go_ret;rw[HK.o];exact⟨{g with b:=c3},s,rfl,rfl,S.x.at,by unfold dK.gt se;rw[<-HC3.o],id,S.fr⟩)
theorem Q2 (G D M:Nat)(g:dK)(s:Pl)(ht:ct g.b.t)(hl:g.held.length<=100000)(full too:lf)(hfu:full.size<=1000000)(htu:too.size<=1000000)(c1 c2:Nat)(w:aD)(h:bw w G g D M s)(hc1:ag w c1 9 1 (λ_=>.string full))(hc2:ag w c2 9 1 (λ_=>.string too)):
 Calls prog 96 (#[.agg (ah 1 λ_=>.pointer (some ⟨G,0,none⟩))]++ #[.pointer (some ⟨c1,0,none⟩),.pointer (some ⟨c2,0,none⟩)]) w λe w'=>sd w w' G D M g (sf full too (g.gt s)) e:=by
 show Calls prog 96 #[.agg (ah 1 λ_=>bZ G 0),bZ c1 0,bZ c2 0] w _;obtain⟨A,hA⟩:=gq (ah 1 (λ_=>bZ G 0));rw[<-hA];have HA:=ae hA;have S:=St.start w (some D) [G,M,g.P] (c8 G g D M s) h.x;have C1:=ae λW (X:bw W G g D M s)=>tM G D M g s A hA ht.fit W X;have C2:=ae λW (X:bw W G g D M s)=>gh G D M g s ht.fit W X;have C3:=ae λ(c:bx) (B:iw) (hB:B=ah 2 (bg c)) (hc:c.t=g.b.t) W (R:dN W c)=>(show Calls prog 97 #[.agg B,.string full,.string too] W λe w'=>∃B,e=.returned (.tuple #[.agg B,.int .i64 (fY g.b.t full too).2])/\gF w' W.heap.size B (fY g.b.t full too).1/\dp W w' from by rw[<-hc];exact Iy c B hB (by rw[hc];exact ht.fit) full too hfu htu W R);have htr:=xv ht full too;have HK:=ae (show sf full too (g.gt s)=if 281474976710651<g.b.next then(g.gt s,192) else xx (g.gt s) (fY g.b.t full too) from rfl);obtain⟨T,hT⟩:=cM (sf full too (g.gt s));obtain⟨r,hr⟩:=cM (fY g.b.t full too);rw[hT,hr] at HK;rw[hT];rw[hr] at C3 htr;obtain⟨b2,c⟩:=r;simp only at C3 htr;have C4:=ae λ(c2:bx) (B:iw) (hB:B=ah 2 (bg c2)) (hc:c2.t=b2) W (X:bw W G g D M s) R=>nT G D M g s c2 B hB (by rw[hc];exact htr.fit) W X R;have C5:=ae λ(c3:bx) (hc:c3.t=b2) W (X:bw W G {g with b:=c3} D M s)=>(show yr 57 #[.agg A] W (.int .i64 (DQ (se (g.gt s) b2))) from by rw[<-hc];exact tj G D M {g with b:=c3} s A hA (show ct c3.t by rw[hc];exact htr) W X (kL hl nh));have Hc1:=ae hc1;have Hc2:=ae hc2;clear h hA ht hl hT hr htr hc1 hc2;go_enter func96,ntmps96;by_cases hm:281474976710651<g.b.next
 case pos=>
  rw[bC hm] at HK;have dm:decide (281474976710651<g.b.next)=true:=ly hm;clear hm
  go_wp2_with (first|(go_at_call 53;refine je S (C1.o _ S.x.at) λW S=>?_)|refine fN ?_|refine ew λW S=>?_)
  go_ret;rw[HK.o];exact⟨g,s,rfl,rfl,S.x.at,rfl,id,S.fr⟩
 rw[bX hm] at HK;have dm:decide (281474976710651<g.b.next)=false:=iE hm;clear hm
 go_upto_region 3 with(first|(go_at_call 53;refine je S (C1.o _ S.x.at) λW S=>?_)|refine fN ?_|refine ew λW S=>?_)
 refine bf S cm [⟨w.heap.size,118,1,λ_=>bZ G 0⟩] L9 λW S=>?_;refine bp 0 10 (bZ w.heap.size 0) ?_;refine bp 1 11 (bZ G 0) ?_;refine gY 3 13 (.string full) rfl (bP (λw h=>ag.cell (ag.fr Hc1.o h.fr (.inr rfl) (.inl rfl)) (i:=0) au) rfl pY) ?_;refine gY 4 14 (.string too) rfl (bP (λw h=>ag.cell (ag.fr Hc2.o h.fr (.inr rfl) (.inl rfl)) (i:=0) au) rfl pY) ?_
 repeat' first|refine Zf ?_|refine qK 6 9 _ ?_|refine qK 7 16 (.agg B2) ?_|refine qK 8 17 (.int .i64 c) ?_|refine qK 11 6 _ ?_|refine JV 2 9 (λK hK=>?_) λK hK=>?_|refine tF 2 λK hK=>?_|refine tF 5 λK hK=>?_|refine tF 10 λK hK=>?_|refine JV 5 9 (λK hK=>?_) λK hK=>?_|refine tF 9 λK hK=>?_|(refine bG S yo dM rfl λE9 W S=>?_;refine gM hK ?_)|(go_wp2_with fail;refine(C2.o _ S.x.at).mono ?_;rintro e W ⟨B,rfl,⟨c1,hB,hc,ho⟩,hb⟩;have HB:=ae hB;have HC:=ae hc;replace S:=S.bB hb ho;clear hB hc;refine gM hK ?_)|(go_wp2_with fail;refine(C3.o c1 B HB.o HC.o _ ⟨S.q0,λx hx=>(S.x.2 x hx).1⟩).mono ?_;rintro e W ⟨B2,rfl,⟨c2,hB,hc,ho⟩,hb⟩;have HB2:=ae hB;have HC2:=ae hc;replace S:=S.bB hb ho;clear hB hc;refine gM hK ?_)|(refine dL S 0 rfl rfl rfl HB2.o fe (aT _) λW S=>?_;refine gM hK ?_)
 all_goals (
  refine ae ?_;unfold xx at HK;simp only at HK;by_cases g2:c=0
  case neg=>
   have g3: (c != 0)=true:=lh.2 g2;rw[bC g2] at HK;clear g2;go_wp2;go_ret;rw[HK.o];exact⟨g,s,rfl,rfl,S.x.1.1.at,rfl,id,S.fr⟩
  subst g2;rw[bX (show ¬((0:Int)≠0) from λh=>h rfl)] at HK
  go_wp2_with (first|(go_at_call 55;refine(C4.o c2 B2 HB2.o HC2.o _ S.x.1.1.at ⟨S.q0,λx hx=>(S.x.2 x hx).1⟩).mono ?_;rintro e W ⟨c3,rfl,hc,hg,ho,hf⟩;have HC3:=ae (hc.trans HC2.o);replace S:=(S.vP (λB w h=>h.1.1) (c8 G g D M s)).QT hg ho hf (.inl fh);clear hc hg)|(go_at_call 57;refine je S (C5.o c3 HC3.o _ S.x.at) λW S=>?_)|refine fN ?_)
  go_ret;rw[HK.o];exact⟨{g with b:=c3},s,rfl,rfl,S.x.at,by unfold dK.gt se;rw[<-HC3.o],id,S.fr⟩)
theorem LQ (G D M:Nat)(g:dK)(s:Pl)(ht:ct g.b.t)(full:lf)(hfu:full.size<=1000000)(c1:Nat)(w:aD)(h:bw w G g D M s)(hc1:ag w c1 9 1 (λ_=>.string full)):
 Calls prog 98 (#[.agg (ah 1 λ_=>.pointer (some ⟨G,0,none⟩))]++ #[.pointer (some ⟨c1,0,none⟩)]) w λe w'=>sd w w' G D M g (mq full (g.gt s)) e:=by
 show Calls prog 98 #[.agg (ah 1 λ_=>bZ G 0),bZ c1 0] w _;obtain⟨A,HA⟩:=BU (ah 1 (λ_=>bZ G 0));rw[<-HA.o];have S:=St.start w (some D) [G,M,g.P] (c8 G g D M s) h.x;have C2:=ae λW (X:bw W G g D M s)=>gh G D M g s ht.fit W X;have C3:=ae λ(c:bx) (B:iw) (hB:B=ah 2 (bg c)) (hc:c.t=g.b.t) W (R:dN W c)=>(show Calls prog 99 #[.agg B,.string full] W λe w'=>∃B,e=.returned (.tuple #[.agg B,.int .i64 (ei g.b.t full).2])/\gF w' W.heap.size B (ei g.b.t full).1/\dp W w' from by rw[<-hc];exact Ee c B hB (by rw[hc];exact ht.fit) full hfu W R);have htr:=uK ht full;have HK:=ae (show mq full (g.gt s)=if(ei g.b.t full).2≠0 then(g.gt s,(ei g.b.t full).2) else(se (g.gt s) (ei g.b.t full).1,0) from rfl);obtain⟨T,hT⟩:=cM (mq full (g.gt s));obtain⟨r,hr⟩:=cM (ei g.b.t full);rw[hT,hr] at HK;rw[hT];rw[hr] at C3 htr;obtain⟨b2,c⟩:=r;simp only at C3 htr HK;have C4:=ae λ(c2:bx) (B:iw) (hB:B=ah 2 (bg c2)) (hc:c2.t=b2) W (X:bw W G g D M s) R=>nT G D M g s c2 B hB (by rw[hc];exact htr.fit) W X R;have Hc1:=ae hc1;clear h ht hT hr htr hc1;go_enter func98,ntmps98
 go_upto_region 1 with(refine ew λW S=>?_)
 refine bf S cm [⟨w.heap.size,118,1,λ_=>bZ G 0⟩] L9 λW S=>?_;refine bp 0 7 (bZ w.heap.size 0) ?_;refine bp 1 8 (bZ G 0) ?_;refine gY 3 10 (.string full) rfl (bP (λw h=>ag.cell (ag.fr Hc1.o h.fr (.inr rfl) (.inl rfl)) (i:=0) au) rfl pY) ?_
 repeat' first|refine Zf ?_|refine qK 5 6 _ ?_|refine qK 6 12 (.agg B2) ?_|refine qK 7 13 (.int .i64 c) ?_|refine qK 10 5 _ ?_|refine JV 2 8 (λK hK=>?_) λK hK=>?_|refine tF 2 λK hK=>?_|refine tF 4 λK hK=>?_|refine tF 9 λK hK=>?_|refine JV 4 8 (λK hK=>?_) λK hK=>?_|refine tF 8 λK hK=>?_|(refine bG S yo dM rfl λE9 W S=>?_;refine gM hK ?_)|(go_wp2_with fail;refine(C2.o _ S.x.at).mono ?_;rintro e W ⟨B,rfl,⟨c1,hB,hc,ho⟩,hb⟩;have HB:=ae hB;have HC:=ae hc;replace S:=S.bB hb ho;clear hB hc;refine gM hK ?_)|(go_wp2_with fail;refine(C3.o c1 B HB.o HC.o _ ⟨S.q0,λx hx=>(S.x.2 x hx).1⟩).mono ?_;rintro e W ⟨B2,rfl,⟨c2,hB,hc,ho⟩,hb⟩;have HB2:=ae hB;have HC2:=ae hc;replace S:=S.bB hb ho;clear hB hc;refine gM hK ?_)|(refine dL S 0 rfl rfl rfl HB2.o fe (aT _) λW S=>?_;refine gM hK ?_)
 all_goals (
  refine ae ?_;by_cases g2:c=0
  case neg=>
   have g3: (c != 0)=true:=lh.2 g2;rw[bC g2] at HK;clear g2;go_wp2;go_ret;rw[HK.o];exact⟨g,s,rfl,rfl,S.x.1.1.at,rfl,id,S.fr⟩
  subst g2;rw[bX (show ¬((0:Int)≠0) from λh=>h rfl)] at HK
  go_wp2_with (first|(go_at_call 55;refine(C4.o c2 B2 HB2.o HC2.o _ S.x.1.1.at ⟨S.q0,λx hx=>(S.x.2 x hx).1⟩).mono ?_;rintro e W ⟨c3,rfl,hc,hg,ho,hf⟩;have HC3:=ae (hc.trans HC2.o);replace S:=(S.vP (λB w h=>h.1.1) (c8 G g D M s)).QT hg ho hf (.inl fh);clear hc hg)|refine fN ?_)
  go_ret;rw[HK.o];exact⟨{g with b:=c3},s,rfl,rfl,S.x.at,by unfold dK.gt se;rw[<-HC3.o],id,S.fr⟩)
theorem bH.next {P:Nat}(h:bH w P D M s)(hp:il w' P D M (jW s.ay) s.base)(hb:ek P w w'):bH w' P D M (u3 s)/\Fr none [P] w w':=by
 have hf:Fr none [P] w w':=Fr.me hb (ag.ty h.row) rfl (gz.2 rfl);exact⟨⟨hp,h.dev.fr hf,h.map.fr hf (λhm=>lT (ag.ty h.map) (ag.ty h.row) nh (gz.1 hm)),⟨wT _,h.ok.2⟩⟩,hf⟩
theorem UE (G D M:Nat)(g:dK)(s:Pl)(ht:ct g.b.t)(hl:g.held.length<=100000)(full:lf)(hfu:full.size<=1000000)(c1:Nat)(w:aD)(h:bw w G g D M s)(hc1:ag w c1 9 1 (λ_=>.string full)):
 Calls prog 51 (#[.agg (ah 1 λ_=>.pointer (some ⟨G,0,none⟩))]++ #[.pointer (some ⟨c1,0,none⟩)]) w λe w'=>sd w w' G D M g (xy full (g.gt s)) e:=by
 show Calls prog 51 #[.agg (ah 1 λ_=>bZ G 0),bZ c1 0] w _;obtain⟨A,hA⟩:=gq (ah 1 (λ_=>bZ G 0));rw[<-hA];have HA:=ae hA;have S:=St.start w (some D) [G,M,g.P] (c8 G g D M s) h.x;have HGP:=ae (kM.IY h.x);have CP:=ae λW s (X:bw W G g D M s)=>j8 G D M g s W X;have CQ:=ae λc3 W (X:bw W G {g with b:=c3} D M s)=>j8 G D M {g with b:=c3} s W X;have CN:=ae λW (X:il W g.P D M s.ay s.base)=>KJ g.P D M s.ay s.base W X;have CS:=ae λW (X:bw W G g D M s)=>pU g.P D M s.ay s.base W X.ft.row;have C1:=ae λW (X:bw W G g D M s)=>tM G D M g s A hA ht.fit W X;have C2:=ae λW (X:bw W G g D M s)=>gh G D M g s ht.fit W X;obtain⟨st,hst⟩:=cM s.ay;have C3:=ae λ(c:bx) (B:iw) (hB:B=ah 2 (bg c)) (hc:c.t=g.b.t) W (R:dN W c)=>(show Calls prog 54 #[.agg B,.string full,.int .u64 st] W λe w'=>∃B,e=.returned (.tuple #[.agg B,.int .i64 (eR g.b.t full st).2])/\gF w' W.heap.size B (eR g.b.t full st).1/\dp W w' from by rw[<-hc];exact K2 c B hB (by rw[hc];exact ht.fit) full hfu st W R);have htr:=za ht full st;have HK:=ae (show xy full (g.gt s)=if 281474976710651<g.b.next∨281474976710651<st then(g.gt s,192) else if(eR g.b.t full st).2≠0 then(g.gt s,(eR g.b.t full st).2) else({se (g.gt s) (eR g.b.t full st).1 with s:=u3 s},DQ {se (g.gt s) (eR g.b.t full st).1 with s:=u3 s}) from by rw[<-hst];rfl);obtain⟨T,hT⟩:=cM (xy full (g.gt s));obtain⟨r,hr⟩:=cM (eR g.b.t full st);rw[hT,hr] at HK;rw[hT];rw[hr] at C3 htr;rw[hst] at CS;obtain⟨b2,c⟩:=r;simp only at C3 htr HK;have C4:=ae λ(c2:bx) (B:iw) (hB:B=ah 2 (bg c2)) (hc:c2.t=b2) W (X:bw W G g D M s) R=>nT G D M g s c2 B hB (by rw[hc];exact htr.fit) W X R;have C5:=ae λ(c3:bx) (hc:c3.t=b2) W (X:bw W G {g with b:=c3} D M (u3 s))=>(show yr 57 #[.agg A] W (.int .i64 (DQ {se (g.gt s) b2 with s:=u3 s})) from by rw[<-hc];exact tj G D M {g with b:=c3} (u3 s) A hA (show ct c3.t by rw[hc];exact htr) W X (kL hl nh));have Hc1:=ae hc1;clear h hA ht hl hT hr htr hc1 hst;go_enter func51,ntmps51;by_cases hm:281474976710651<g.b.next
 case pos=>
  rw[bC (.inl hm)] at HK;have dm:decide (281474976710651<g.b.next)=true:=ly hm;clear hm
  go_wp2_with (first|(go_at_call 24;refine qJ (CP.o _ _ S.x.at) ?_;)|(go_at_call 52;refine qJ (CS.o _ S.x.at) ?_;)|(go_at_call 53;refine je S (C1.o _ S.x.at) λW S=>?_)|refine fN ?_|refine ew λW S=>?_)
  go_ret;rw[HK.o];exact⟨g,s,rfl,rfl,S.x.at,rfl,id,S.fr⟩
 have dm:decide (281474976710651<g.b.next)=false:=iE hm;by_cases hs:281474976710651<st
 case pos=>
  rw[bC (.inr hs)] at HK;have ds:decide ((281474976710651:Int)< (st:Int))=true:=ly au;clear hm hs
  go_wp2_with (first|(go_at_call 24;refine qJ (CP.o _ _ S.x.at) ?_;)|(go_at_call 52;refine qJ (CS.o _ S.x.at) ?_;)|(go_at_call 53;refine je S (C1.o _ S.x.at) λW S=>?_)|refine fN ?_|refine ew λW S=>?_)
  go_ret;rw[HK.o];exact⟨g,s,rfl,rfl,S.x.at,rfl,id,S.fr⟩
 rw[bX (λh=>h.elim hm hs)] at HK;have ds:decide ((281474976710651:Int)< (st:Int))=false:=iE au;clear hm hs
 go_upto_region 4 with(first|(go_at_call 24;refine qJ (CP.o _ _ S.x.at) ?_;)|(go_at_call 52;refine qJ (CS.o _ S.x.at) ?_;)|(go_at_call 53;refine je S (C1.o _ S.x.at) λW S=>?_)|refine fN ?_|refine ew λW S=>?_)
 refine bf S cm [⟨w.heap.size,118,1,λ_=>bZ G 0⟩] L9 λW S=>?_;refine bp 0 18 (bZ w.heap.size 0) ?_;refine bp 1 19 (bZ G 0) ?_;refine gY 3 21 (.string full) rfl (bP (λw h=>ag.cell (ag.fr Hc1.o h.fr (.inr rfl) (.inl rfl)) (i:=0) au) rfl pY) ?_;refine bp 4 22 _ ?_
 repeat' first|refine Zf ?_|refine qK 6 17 _ ?_|refine qK 7 24 (.agg B2) ?_|refine qK 8 25 (.int .i64 c) ?_|refine qK 11 6 _ ?_|refine JV 2 9 (λK hK=>?_) λK hK=>?_|refine tF 2 λK hK=>?_|refine tF 5 λK hK=>?_|refine tF 10 λK hK=>?_|refine JV 5 9 (λK hK=>?_) λK hK=>?_|refine tF 9 λK hK=>?_|(refine bG S yo dM rfl λE9 W S=>?_;refine gM hK ?_)|(go_wp2_with fail;refine(C2.o _ S.x.at).mono ?_;rintro e W ⟨B,rfl,⟨c1,hB,hc,ho⟩,hb⟩;have HB:=ae hB;have HC:=ae hc;replace S:=S.bB hb ho;clear hB hc;refine gM hK ?_)|(go_wp2_with fail;refine(C3.o c1 B HB.o HC.o _ ⟨S.q0,λx hx=>(S.x.2 x hx).1⟩).mono ?_;rintro e W ⟨B2,rfl,⟨c2,hB,hc,ho⟩,hb⟩;have HB2:=ae hB;have HC2:=ae hc;replace S:=S.bB hb ho;clear hB hc;refine gM hK ?_)|(refine dL S 0 rfl rfl rfl HB2.o fe (aT _) λW S=>?_;refine gM hK ?_)
 all_goals (
  refine ae ?_;by_cases g2:c=0
  case neg=>
   have g3: (c != 0)=true:=lh.2 g2;rw[bC g2] at HK;clear g2;go_wp2;go_ret;rw[HK.o];exact⟨g,s,rfl,rfl,S.x.1.1.at,rfl,id,S.fr⟩
  subst g2;rw[bX (show ¬((0:Int)≠0) from λh=>h rfl)] at HK
  go_upto_region 8 with(first|(go_at_call 55;refine(C4.o c2 B2 HB2.o HC2.o _ S.x.1.1.at ⟨S.q0,λx hx=>(S.x.2 x hx).1⟩).mono ?_;rintro e W ⟨c3,rfl,hc,hg,ho,hf⟩;have HC3:=ae (hc.trans HC2.o);replace S:=(S.vP (λB w h=>h.1.1) (c8 G g D M s)).QT hg ho hf (.inl fh);clear hc hg)|refine fN ?_)
  go_wp2_with (first|(go_at_call 24;refine qJ (CQ.o _ _ S.x.at) ?_;)|(go_at_call 56;refine(CN.o _ S.x.at.ft.row).mono ?_;rintro e W ⟨rfl,hp,hb⟩;have hpn:=bH.next S.x.at.ft hp hb;replace S:=S.Zt hpn.2 (λD e=>by cases e) (λk hk=>.inl (by rw[gz.1 hk];simp)) (by rw[gz];exact HGP.o.1) hpn.1;clear hpn)|(go_at_call 57;refine je S (C5.o c3 HC3.o _ S.x.at) λW S=>?_)|refine fN ?_)
  go_ret;rw[HK.o];exact⟨{g with b:=c3},u3 s,rfl,rfl,S.x.at,by unfold dK.gt se;rw[<-HC3.o],id,S.fr⟩)
end Go.Proofs.YtklligbjoplbgaaGreat
