/- Part 14 of 15 of the proof of WholeBytes; no conditions. -/
import Derived.Test.YtklligbjoplbgaaGreatNam
namespace Go.Proofs.YtklligbjoplbgaaGreat
set_option linter.all false
set_option maxRecDepth 100000
set_option maxHeartbeats 64000000
open Go.RowKit Lib List Nat _root_.Go.Proofs.Tryz Go.Shelf
variable {A:iw}{a:Act}{af:Array Edge}{ops:Array Oper}{r:cL×(cu×Int)}{Q:Exit->Act->aD->Prop}{B l:aK}{X:aK->aD->Prop}{O:List O4}{rest:List Oper}{L:List R4}{D K N m o:Nat}{f' g:Nat->bh}{d:Option Nat}{P:pw}{p:String}{t:dD}{v:bh}{w w0:aD}
theorem LR (G D M:Nat)(g:dK)(s:Pl)(ht:ct g.b.t)(full:lf)(hfu:full.size<=1000000)(c1:Nat)(w:aD)(h:bw w G g D M s)(hc1:ag w c1 9 1 (λ_=>.string full)):
 Calls prog 62 (#[.agg (ah 1 λ_=>.pointer (some ⟨G,0,none⟩))]++ #[.pointer (some ⟨c1,0,none⟩)]) w λe w'=>sd w w' G D M g (mr full (g.gt s)) e:=by
 show Calls prog 62 #[.agg (ah 1 λ_=>bZ G 0),bZ c1 0] w _;obtain⟨A,hA⟩:=gq (ah 1 (λ_=>bZ G 0));rw[<-hA];have HA:=ae hA;have S:=St.start w (some D) [G,M,g.P] (c8 G g D M s) h.x;have HGP:=ae (kM.IY h.x);have C0:=ae λW=>nA full hfu W;have C2:=ae λW (X:bw W G g D M s)=>gh G D M g s ht.fit W X;have HK:=ae (show mr full (g.gt s)=(dQ full).elim (g.gt s,141) λp=>if p.2=ov then xz (g.gt s) (eM g.b.t full) else LK (g.gt s) (dJ g.b.t full) from rfl);obtain⟨T,hT⟩:=cM (mr full (g.gt s));obtain⟨ns,hns⟩:=cM (dQ full);rw[hT,hns] at HK;rw[hT];rw[hns] at C0;have Hc1:=ae hc1;clear h hT hns hc1;cases ns with
 | none=>
  rw[show codeF 141 (none:Option (lf×lf))=141 from rfl] at C0;simp only[Option.elim_none] at HK;clear hA;go_enter func62,ntmps62
  go_wp2_with (first|((with_reducible refine pP ?_);refine BN (ag.cell (ag.fr Hc1.o S.fr (.inr rfl) (.inl rfl)) (i:=0) au) ?_)|(go_at_call 63;refine je S (C0.o _) λW S=>?_)|refine ew λW S=>?_)
  go_ret;rw[HK.o];exact⟨g,s,rfl,rfl,S.x.at,rfl,id,S.fr⟩
 | some p=>
  obtain⟨vn,sn⟩:=p;simp only[mb] at C0;rw[show codeF 141 (some (vn,sn))=0 from rfl] at C0;simp only[E'] at HK;by_cases h1:sn=ov
  . have g1:sn.toList.isEmpty=true:=by rw[h1,Iv];rfl
    rw[bC h1] at HK;have C3:=ae λ(c:bx) (B:iw) (hB:B=ah 2 (bg c)) (hc:c.t=g.b.t) W (R:dN W c)=>(show Calls prog 64 #[.agg B,.string full] W λe w'=>∃B D,e=.returned (.tuple #[.agg B,.agg D,.int .i64 (eM g.b.t full).2.2])/\gF w' W.heap.size B (eM g.b.t full).1/\rX w' W.heap.size D (eM g.b.t full).2.1/\dp W w' from by rw[<-hc];exact Ed c B hB (by rw[hc];exact ht.fit) full hfu W R);obtain⟨htr,hts⟩:=uL ht full;obtain⟨r,hr⟩:=cM (eM g.b.t full);rw[hr] at C3 htr hts HK;obtain⟨b2,t2,c⟩:=r;simp only at C3 htr hts;unfold xz at HK;simp only at HK;have C4:=ae λ(c2:bx) (B:iw) (hB:B=ah 2 (bg c2)) (hc:c2.t=b2) (y:aZ) (A9:iw) (hA9:A9=ah 11 (dy y)) (hy:y.tocu=t2) W X R=>zj G D M g s ht c2 B hB (by rw[hc];exact htr.fit) y A9 hA9 (by have h1:=hts.2.2.1;rw[<-hy] at h1;exact h1) A hA W X R;clear hA ht hr htr hts h1;go_enter func62,ntmps62
    go_upto_region 5 with(first
   |((with_reducible refine pP ?_);refine BN (ag.cell (ag.fr Hc1.o S.fr (.inr rfl) (.inl rfl)) (i:=0) au) ?_)
   |(go_at_call 63;refine je S (C0.o _) λW S=>?_)
   |refine ew λW S=>?_)
    refine bf S cm [⟨w.heap.size,118,1,λ_=>bZ G 0⟩] L9 λW S=>?_;refine bp 0 23 (bZ w.heap.size 0) ?_;refine bp 1 24 (bZ G 0) ?_;refine gY 3 26 (.string full) rfl (bP (λw h=>ag.cell (ag.fr Hc1.o h.fr (.inr rfl) (.inl rfl)) (i:=0) au) rfl pY) ?_
    all_goals (first |(refine rd3 (i:=2) (j:=9) (k:=10) dk_ rfl rfl rfl cm cm cm (λK hK=>?_) (λK hK=>?_) (λK hK=>?_)))
    all_goals (first|(go_wp2_with fail;refine JZ S (C2.o _ S.x.at) λW B c1 HB HC _ S=>?_;refine gM hK ?_)|(refine bG S yo dM rfl λE4 W S=>?_;refine gM hK ?_)|(refine bG S Er cO rfl λE5 W S=>?_;refine gM hK ?_))
    all_goals (clear hK K)
    all_goals (first |(refine rd3 (i:=4) (j:=9) (k:=10) dk_ rfl rfl rfl cm cm cm (λK hK=>?_) (λK hK=>?_) (λK hK=>?_)) |(refine JV 2 10 (λK hK=>?_) λK hK=>?_) |(refine JV 2 9 (λK hK=>?_) λK hK=>?_))
    all_goals (first|(go_wp2_with fail;refine(C3.o c1 B HB.o HC.o _ ⟨S.q0,λx hx=>(S.x.2 x hx).1⟩).mono ?_;rintro e W ⟨B2,D2,rfl,⟨c2,hB,hc,ho⟩,⟨y2,hD,hy,-⟩,hb⟩;have HB2:=ae hB;have HC2:=ae hc;have HD2:=ae hD;have HY2:=ae hy;replace S:=S.bB hb ho;clear hB hc hD hy;refine gM hK ?_)|(refine bG S yo dM rfl λE4 W S=>?_;refine gM hK ?_)|(refine bG S Er cO rfl λE5 W S=>?_;refine gM hK ?_)|(go_wp2_with fail;refine JZ S (C2.o _ S.x.at) λW B c1 HB HC _ S=>?_;refine gM hK ?_))
    all_goals (clear hK K)
    all_goals (try (refine qK 5 22 _ ?_))
    all_goals (try (refine qK 6 28 (.agg B2) ?_))
    all_goals (try (refine qK 7 29 (.agg D2) ?_))
    all_goals (try (refine qK 8 30 (.int .i64 c) ?_))
    all_goals (first |(refine JV 9 10 (λK hK=>?_) λK hK=>?_) |(refine JV 4 10 (λK hK=>?_) λK hK=>?_) |(refine JV 4 9 (λK hK=>?_) λK hK=>?_) |(refine tF 2 λK hK=>?_))
    all_goals (first|(refine bG S yo dM rfl λE4 W S=>?_;refine gM hK ?_)|(refine bG S Er cO rfl λE5 W S=>?_;refine gM hK ?_)|(go_wp2_with fail;refine(C3.o c1 B HB.o HC.o _ ⟨S.q0,λx hx=>(S.x.2 x hx).1⟩).mono ?_;rintro e W ⟨B2,D2,rfl,⟨c2,hB,hc,ho⟩,⟨y2,hD,hy,-⟩,hb⟩;have HB2:=ae hB;have HC2:=ae hc;have HD2:=ae hD;have HY2:=ae hy;replace S:=S.bB hb ho;clear hB hc hD hy;refine gM hK ?_)|(go_wp2_with fail;refine JZ S (C2.o _ S.x.at) λW B c1 HB HC _ S=>?_;refine gM hK ?_))
    all_goals (clear hK K)
    all_goals (try (refine qK 5 22 _ ?_))
    all_goals (try (refine qK 6 28 (.agg B2) ?_))
    all_goals (try (refine qK 7 29 (.agg D2) ?_))
    all_goals (try (refine qK 8 30 (.int .i64 c) ?_))
    all_goals (first |(refine tF 10 λK hK=>?_) |(refine tF 9 λK hK=>?_) |(refine tF 4 λK hK=>?_))
    all_goals (first|(refine bG S Er cO rfl λE5 W S=>?_;refine gM hK ?_)|(refine bG S yo dM rfl λE4 W S=>?_;refine gM hK ?_)|(go_wp2_with fail;refine(C3.o c1 B HB.o HC.o _ ⟨S.q0,λx hx=>(S.x.2 x hx).1⟩).mono ?_;rintro e W ⟨B2,D2,rfl,⟨c2,hB,hc,ho⟩,⟨y2,hD,hy,-⟩,hb⟩;have HB2:=ae hB;have HC2:=ae hc;have HD2:=ae hD;have HY2:=ae hy;replace S:=S.bB hb ho;clear hB hc hD hy;refine gM hK ?_))
    all_goals (clear hK K)
    all_goals (try (refine qK 5 22 _ ?_))
    all_goals (try (refine qK 6 28 (.agg B2) ?_))
    all_goals (try (refine qK 7 29 (.agg D2) ?_))
    all_goals (try (refine qK 8 30 (.int .i64 c) ?_))
    all_goals (first |(refine tF 11 λK hK=>?_))
    all_goals (first|((first |(refine dL S 0 rfl rfl rfl HB2.o fe (aT _) λW S=>?_) |(refine dL S 1 rfl rfl rfl HB2.o fe (aT _) λW S=>?_));refine gM hK ?_))
    all_goals (clear hK K)
    all_goals (first |(refine tF 12 λK hK=>?_))
    all_goals (first|((first |(refine dL S 0 rfl rfl rfl HD2.o fQ (cy _) λW S=>?_) |(refine dL S 1 rfl rfl rfl HD2.o fQ (cy _) λW S=>?_));refine gM hK ?_))
    all_goals (clear hK K)
    all_goals (refine bp 13 9 _ ?_)
    all_goals (refine uy ?_)
    all_goals (
     first |(replace S:St w (some D) [G,M,g.P] [⟨E5,109,11,dy y2⟩,⟨E4,99,2,bg c2⟩,⟨w.heap.size,118,1,λ_=>bZ G 0⟩] _ _ _:=S) |(replace S:St w (some D) [G,M,g.P] [⟨E5,109,11,dy y2⟩,⟨E4,99,2,bg c2⟩,⟨w.heap.size,118,1,λ_=>bZ G 0⟩] _ _ _:=S.WM)
     by_cases g2:c=0
     case neg=>
      have g3: (c != 0)=true:=lh.2 g2;rw[bC g2] at HK;clear g2;go_wp2;go_ret;rw[HK.o];exact⟨g,s,rfl,rfl,S.x.1.1.at,rfl,id,S.fr⟩
     subst g2;rw[bX (show ¬((0:Int)≠0) from λh=>h rfl),<-HC2.o,<-HY2.o] at HK
     go_wp2_with (first
   |(go_at_call 65;refine(C4.o c2 B2 HB2.o HC2.o y2 D2 HD2.o HY2.o _ S.x.1.1.at ⟨S.q0,λx hx=>(S.x.2 x hx).1⟩).mono ?_;rintro e W hK;have HKR:=ae hK;clear hK;obtain⟨g3,s3,rfl,hP,hg,hgt3,hpp,hf⟩:=HKR.o;clear HKR;have hF:=S.fr.step hf (λD e=>e) (λk hk=>.inl hk);have HR:=ae (And.intro hP (And.intro hg (And.intro hgt3 hpp)));clear hP hg hgt3 hpp;rw[<-HK.o])
   |refine fN ?_)
     go_ret;obtain⟨hP,hg,hgt3,hpp⟩:=HR.o;rw[<-HK.o] at hgt3;exact⟨g3,s3,rfl,hP,hg,hgt3,hpp,hF⟩)
  . have g1:sn.toList.isEmpty=false:=qp h1;rw[bX h1] at HK;have C3:=ae λ(c:bx) (B:iw) (hB:B=ah 2 (bg c)) (hc:c.t=g.b.t) W (R:dN W c)=>(show Calls prog 66 #[.agg B,.string full] W λe w'=>∃B r,e=.returned (.tuple #[.agg B,r,.int .i64 (dJ g.b.t full).2.2])/\gF w' W.heap.size B (dJ g.b.t full).1/\dh w' W.heap.size r (dJ g.b.t full).2.1/\dp W w' from by rw[<-hc];exact Cq c B hB (by rw[hc];exact ht.fit) full hfu W R);obtain⟨htr,hgp,hgl⟩:=tq ht full;obtain⟨r,hr⟩:=cM (dJ g.b.t full);rw[hr] at C3 htr hgp hgl HK;obtain⟨b2,gone,c⟩:=r;simp only at C3 htr hgp hgl;unfold LK at HK;simp only at HK;have C5:=ae λr W X (R:fM W r gone)=>vB G D M g s gone hgp hgl r A hA W X R;have C6:=ae λ(c2:bx) (B:iw) (hB:B=ah 2 (bg c2)) (hc:c2.t=b2) W (X:bw W G g D M (dI s gone)) R=>nT G D M g (dI s gone) c2 B hB (by rw[hc];exact htr.fit) W X R;clear hA ht hr htr hgp hgl h1;go_enter func62,ntmps62
    go_upto_region 9 with(first
   |((with_reducible refine pP ?_);refine BN (ag.cell (ag.fr Hc1.o S.fr (.inr rfl) (.inl rfl)) (i:=0) au) ?_)
   |(go_at_call 63;refine je S (C0.o _) λW S=>?_)
   |refine ew λW S=>?_)
    refine bf S cm [⟨w.heap.size,118,1,λ_=>bZ G 0⟩] L9 λW S=>?_;refine bp 0 39 (bZ w.heap.size 0) ?_;refine bp 1 40 (bZ G 0) ?_;refine gY 3 42 (.string full) rfl (bP (λw h=>ag.cell (ag.fr Hc1.o h.fr (.inr rfl) (.inl rfl)) (i:=0) au) rfl pY) ?_
    all_goals (first |(refine JV 2 9 (λK hK=>?_) λK hK=>?_))
    all_goals (first|(go_wp2_with fail;refine JZ S (C2.o _ S.x.at) λW B c1 HB HC _ S=>?_;refine gM hK ?_)|(refine bG S yo dM rfl λE4 W S=>?_;refine gM hK ?_))
    all_goals (clear hK K)
    all_goals (first |(refine JV 4 9 (λK hK=>?_) λK hK=>?_) |(refine tF 2 λK hK=>?_))
    all_goals (first|(go_wp2_with fail;refine(C3.o c1 B HB.o HC.o _ ⟨S.q0,λx hx=>(S.x.2 x hx).1⟩).mono ?_;rintro e W ⟨B2,r,rfl,⟨c2,hB,hc,ho⟩,hr,hb⟩;have HB2:=ae hB;have HC2:=ae hc;have HF:=ae (aH hr);replace S:=S.GI hb ho hr;clear hB hc hr;obtain⟨ra,rc,rfl⟩:=HF.o;clear HF;refine gM hK ?_)|(refine bG S yo dM rfl λE4 W S=>?_;refine gM hK ?_)|(go_wp2_with fail;refine JZ S (C2.o _ S.x.at) λW B c1 HB HC _ S=>?_;refine gM hK ?_))
    all_goals (clear hK K)
    all_goals (try (refine qK 5 38 _ ?_))
    all_goals (try (refine qK 6 44 (.agg B2) ?_))
    all_goals (try (refine qK 7 45 (.slice ra gone.length rc) ?_))
    all_goals (try (refine qK 8 46 (.int .i64 c) ?_))
    all_goals (first |(refine tF 9 λK hK=>?_) |(refine tF 4 λK hK=>?_))
    all_goals (first|(refine bG S yo dM rfl λE4 W S=>?_;refine gM hK ?_)|(go_wp2_with fail;refine(C3.o c1 B HB.o HC.o _ ⟨S.q0,λx hx=>(S.x.2 x hx).1⟩).mono ?_;rintro e W ⟨B2,r,rfl,⟨c2,hB,hc,ho⟩,hr,hb⟩;have HB2:=ae hB;have HC2:=ae hc;have HF:=ae (aH hr);replace S:=S.GI hb ho hr;clear hB hc hr;obtain⟨ra,rc,rfl⟩:=HF.o;clear HF;refine gM hK ?_))
    all_goals (clear hK K)
    all_goals (try (refine qK 5 38 _ ?_))
    all_goals (try (refine qK 6 44 (.agg B2) ?_))
    all_goals (try (refine qK 7 45 (.slice ra gone.length rc) ?_))
    all_goals (try (refine qK 8 46 (.int .i64 c) ?_))
    all_goals (first |(refine tF 10 λK hK=>?_))
    all_goals (first|(refine dL S 0 rfl rfl rfl HB2.o fe (aT _) λW S=>?_;refine gM hK ?_))
    all_goals (clear hK K)
    all_goals (refine bp 11 11 _ ?_)
    all_goals (refine bp 12 6 _ ?_)
    all_goals (refine uy ?_)
    all_goals (
     by_cases g4:c=131
     case pos=>
      subst g4;rw[bC rfl] at HK
      go_wp2_with (go_at_call 49;refine(mI 131 _).mono ?_;rintro e W ⟨rfl,rfl⟩;)
      go_ret;rw[HK.o];exact⟨g,s,rfl,rfl,S.x.1.1.1.at,rfl,id,S.fr⟩
     have g5: (c==131)=false:=k'.2 g4;have g6:decide (c=131)=false:=iE g4;rw[bX g4] at HK;clear g4;by_cases g2:c=0
     case neg=>
      have g3: (c != 0)=true:=lh.2 g2;rw[bC g2] at HK;clear g2;go_wp2;go_ret;rw[HK.o];exact⟨g,s,rfl,rfl,S.x.1.1.1.at,rfl,id,S.fr⟩
     subst g2;rw[bX (show ¬((0:Int)≠0) from λh=>h rfl)] at HK
     go_wp2_with (first
   |(go_at_call 67;refine(C5.o _ _ S.x.1.1.1.at S.x.2.1).mono ?_;rintro e W ⟨rfl,hg,hf⟩;replace S:=S.call (X':=λB w=>kM G g D M (dI s gone) B w/\rW c2.sv c2.l B w) hf (λD e=>e) (λk hk=>.inl (by rw[gz.1 hk];simp)) ((c8 G g D M _).still (fx c2.sv c2.l)) (λB h=>⟨h.1.1.1.pl hf (by rw[gz];exact HGP.o.2.1) hg.ft,(fx _ _).fr h.1.2 hf⟩);clear hg)
   |(go_at_call 55;refine(C6.o c2 B2 HB2.o HC2.o _ S.x.1.at S.x.2.sl).mono ?_;rintro e W ⟨c3,rfl,hc,hg,ho,hf⟩;have HC3:=ae (hc.trans HC2.o);replace S:=(S.vP (λB w h=>h.1) (c8 G g D M _)).QT hg ho hf (.inl fh);clear hc hg)
   |refine fN ?_)
     go_ret;rw[HK.o];exact⟨{g with b:=c3},dI s gone,rfl,rfl,S.x.at,by unfold dK.gt;rw[<-HC3.o],id,S.fr⟩)
def LS (w w':aD) (K D:Nat) (r:GT×Int) (e:Ending):Prop:=e=.returned (.int .i64 r.2)/\cY w' K D r.1/\Fr (some D) [K] w w'
theorem GQ (K D:Nat)(x:GT)(hx:Bz x)(full:lf)(hfu:full.size<=1000000)(n:Int)(w:aD)(h:cY w K D x):
 Calls prog 33 #[.pointer (some ⟨K,0,none⟩),.string full,.int .i64 n] w λe w'=>LS w w' K D (fq x (oW full n)) e:=by
 obtain⟨G,g,M,hp,hgt,hpar⟩:=h;have HX:=ae hx;have HG:=ae (And.intro hgt hpar);have S:=St.start w (some D) [K] (eP K G g D M x.s) hp.x;have eg: ∀args w,(callFunc 76 args).run prog w=.ok (.enter 76 args) w:=enters_of func76 cm rfl;have EG:=ae eg;have HC:=ae λG2 M2 g2 (hgt2:g2.gt x.s=x) (d0 d1:Nat) W (X:bw W G2 g2 D M2 x.s) h0 h1=>(show Calls prog 76 _ W λe w'=>sd W w' G2 D M2 g2 (oW full n x) e from by
  have ht:ct g2.b.t:=by have h1:=hx.text;rw[<-hgt2] at h1;exact h1
  have hl:g2.held.length<=100000:=by have h1:=hx.mZ;rw[<-hgt2] at h1;exact h1
  have h9:=OH G2 D M2 g2 x.s ht hl full hfu n d0 d1 W X h0 h1;rw[hgt2] at h9;exact h9)
 obtain⟨T,HT⟩:=qI (fq x (oW full n));rw[HT.o];clear hgt hpar hx eg;go_enter func33,ntmps33
 go_wp2_with (first|(go_at_call 50;refine(ke K D x HX.o (oW full n) 76 _ EG.o _ ⟨G,g,M,S.x.at,HG.o.1,HG.o.2⟩ (λG2 M2 g2 W2 hf hg hgt2=>HC.o G2 M2 g2 hgt2 _ _ W2 hg (ag.fr S.k1 hf (.inr rfl) (.inl rfl)) (ag.fr S.k0 hf (.inr rfl) (.inl rfl)))).mono ?_;rintro e W9 ⟨rfl,hp2,hf2⟩;have hF:=S.fr.step hf2 (λD e=>e) (λk hk=>.inl hk);rw[HT.o] at hp2 ⊢;have HP:=ae hp2;clear hp2)|refine ew λW S=>?_)
 go_ret;exact⟨rfl,HP.o,hF⟩
theorem I8 (K D:Nat)(x:GT)(hx:Bz x)(full too:lf)(hfu:full.size<=1000000)(htu:too.size<=1000000)(w:aD)(h:cY w K D x):
 Calls prog 40 #[.pointer (some ⟨K,0,none⟩),.string full,.string too] w λe w'=>LS w w' K D (fq x (sf full too)) e:=by
 obtain⟨G,g,M,hp,hgt,hpar⟩:=h;have HX:=ae hx;have HG:=ae (And.intro hgt hpar);have S:=St.start w (some D) [K] (eP K G g D M x.s) hp.x;have eg: ∀args w,(callFunc 96 args).run prog w=.ok (.enter 96 args) w:=enters_of func96 cm rfl;have EG:=ae eg;have HC:=ae λG2 M2 g2 (hgt2:g2.gt x.s=x) (d0 d1:Nat) W (X:bw W G2 g2 D M2 x.s) h0 h1=>(show Calls prog 96 _ W λe w'=>sd W w' G2 D M2 g2 (sf full too x) e from by
  have ht:ct g2.b.t:=by have h1:=hx.text;rw[<-hgt2] at h1;exact h1
  have hl:g2.held.length<=100000:=by have h1:=hx.mZ;rw[<-hgt2] at h1;exact h1
  have h9:=Q2 G2 D M2 g2 x.s ht hl full too hfu htu d0 d1 W X h0 h1;rw[hgt2] at h9;exact h9)
 obtain⟨T,HT⟩:=qI (fq x (sf full too));rw[HT.o];clear hgt hpar hx eg;go_enter func40,ntmps40
 go_wp2_with (first|(go_at_call 50;refine(ke K D x HX.o (sf full too) 96 _ EG.o _ ⟨G,g,M,S.x.at,HG.o.1,HG.o.2⟩ (λG2 M2 g2 W2 hf hg hgt2=>HC.o G2 M2 g2 hgt2 _ _ W2 hg (ag.fr S.k1 hf (.inr rfl) (.inl rfl)) (ag.fr S.k0 hf (.inr rfl) (.inl rfl)))).mono ?_;rintro e W9 ⟨rfl,hp2,hf2⟩;have hF:=S.fr.step hf2 (λD e=>e) (λk hk=>.inl hk);rw[HT.o] at hp2 ⊢;have HP:=ae hp2;clear hp2)|refine ew λW S=>?_)
 go_ret;exact⟨rfl,HP.o,hF⟩
theorem LU (K D:Nat)(x:GT)(hx:Bz x)(full:lf)(hfu:full.size<=1000000)(w:aD)(h:cY w K D x):
 Calls prog 14 #[.pointer (some ⟨K,0,none⟩),.string full] w λe w'=>LS w w' K D (fq x (xy full)) e:=by
 obtain⟨G,g,M,hp,hgt,hpar⟩:=h;have HX:=ae hx;have HG:=ae (And.intro hgt hpar);have S:=St.start w (some D) [K] (eP K G g D M x.s) hp.x;have eg: ∀args w,(callFunc 51 args).run prog w=.ok (.enter 51 args) w:=enters_of func51 cm rfl;have EG:=ae eg;have HC:=ae λG2 M2 g2 (hgt2:g2.gt x.s=x) (d0:Nat) W (X:bw W G2 g2 D M2 x.s) h0=>(show Calls prog 51 _ W λe w'=>sd W w' G2 D M2 g2 (xy full x) e from by
  have ht:ct g2.b.t:=by have h1:=hx.text;rw[<-hgt2] at h1;exact h1
  have hl:g2.held.length<=100000:=by have h1:=hx.mZ;rw[<-hgt2] at h1;exact h1
  have h9:=UE G2 D M2 g2 x.s ht hl full hfu d0 W X h0;rw[hgt2] at h9;exact h9)
 obtain⟨T,HT⟩:=qI (fq x (xy full));rw[HT.o];clear hgt hpar hx eg;go_enter func14,ntmps14
 go_wp2_with (first|(go_at_call 50;refine(ke K D x HX.o (xy full) 51 _ EG.o _ ⟨G,g,M,S.x.at,HG.o.1,HG.o.2⟩ (λG2 M2 g2 W2 hf hg hgt2=>HC.o G2 M2 g2 hgt2 _ W2 hg (ag.fr S.k0 hf (.inr rfl) (.inl rfl)))).mono ?_;rintro e W9 ⟨rfl,hp2,hf2⟩;have hF:=S.fr.step hf2 (λD e=>e) (λk hk=>.inl hk);rw[HT.o] at hp2 ⊢;have HP:=ae hp2;clear hp2)|refine ew λW S=>?_)
 go_ret;exact⟨rfl,HP.o,hF⟩
theorem Ei (K D:Nat)(x:GT)(hx:Bz x)(full:lf)(hfu:full.size<=1000000)(w:aD)(h:cY w K D x):
 Calls prog 41 #[.pointer (some ⟨K,0,none⟩),.string full] w λe w'=>LS w w' K D (fq x (mq full)) e:=by
 obtain⟨G,g,M,hp,hgt,hpar⟩:=h;have HX:=ae hx;have HG:=ae (And.intro hgt hpar);have S:=St.start w (some D) [K] (eP K G g D M x.s) hp.x;have eg: ∀args w,(callFunc 98 args).run prog w=.ok (.enter 98 args) w:=enters_of func98 cm rfl;have EG:=ae eg;have HC:=ae λG2 M2 g2 (hgt2:g2.gt x.s=x) (d0:Nat) W (X:bw W G2 g2 D M2 x.s) h0=>(show Calls prog 98 _ W λe w'=>sd W w' G2 D M2 g2 (mq full x) e from by
  have ht:ct g2.b.t:=by have h1:=hx.text;rw[<-hgt2] at h1;exact h1
  have hl:g2.held.length<=100000:=by have h1:=hx.mZ;rw[<-hgt2] at h1;exact h1
  have h9:=LQ G2 D M2 g2 x.s ht full hfu d0 W X h0;rw[hgt2] at h9;exact h9)
 obtain⟨T,HT⟩:=qI (fq x (mq full));rw[HT.o];clear hgt hpar hx eg;go_enter func41,ntmps41
 go_wp2_with (first|(go_at_call 50;refine(ke K D x HX.o (mq full) 98 _ EG.o _ ⟨G,g,M,S.x.at,HG.o.1,HG.o.2⟩ (λG2 M2 g2 W2 hf hg hgt2=>HC.o G2 M2 g2 hgt2 _ W2 hg (ag.fr S.k0 hf (.inr rfl) (.inl rfl)))).mono ?_;rintro e W9 ⟨rfl,hp2,hf2⟩;have hF:=S.fr.step hf2 (λD e=>e) (λk hk=>.inl hk);rw[HT.o] at hp2 ⊢;have HP:=ae hp2;clear hp2)|refine ew λW S=>?_)
 go_ret;exact⟨rfl,HP.o,hF⟩
theorem LV (K D:Nat)(x:GT)(hx:Bz x)(full:lf)(hfu:full.size<=1000000)(w:aD)(h:cY w K D x):
 Calls prog 42 #[.pointer (some ⟨K,0,none⟩),.string full] w λe w'=>LS w w' K D (fq x (zi full)) e:=by
 obtain⟨G,g,M,hp,hgt,hpar⟩:=h;have HX:=ae hx;have HG:=ae (And.intro hgt hpar);have S:=St.start w (some D) [K] (eP K G g D M x.s) hp.x;have eg: ∀args w,(callFunc 100 args).run prog w=.ok (.enter 100 args) w:=enters_of func100 cm rfl;have EG:=ae eg;have HC:=ae λG2 M2 g2 (hgt2:g2.gt x.s=x) (d0:Nat) W (X:bw W G2 g2 D M2 x.s) h0=>(show Calls prog 100 _ W λe w'=>sd W w' G2 D M2 g2 (zi full x) e from by
  have ht:ct g2.b.t:=by have h1:=hx.text;rw[<-hgt2] at h1;exact h1
  have hl:g2.held.length<=100000:=by have h1:=hx.mZ;rw[<-hgt2] at h1;exact h1
  have h9:=UB G2 D M2 g2 x.s ht full hfu d0 W X h0;rw[hgt2] at h9;exact h9)
 obtain⟨T,HT⟩:=qI (fq x (zi full));rw[HT.o];clear hgt hpar hx eg;go_enter func42,ntmps42
 go_wp2_with (first|(go_at_call 50;refine(ke K D x HX.o (zi full) 100 _ EG.o _ ⟨G,g,M,S.x.at,HG.o.1,HG.o.2⟩ (λG2 M2 g2 W2 hf hg hgt2=>HC.o G2 M2 g2 hgt2 _ W2 hg (ag.fr S.k0 hf (.inr rfl) (.inl rfl)))).mono ?_;rintro e W9 ⟨rfl,hp2,hf2⟩;have hF:=S.fr.step hf2 (λD e=>e) (λk hk=>.inl hk);rw[HT.o] at hp2 ⊢;have HP:=ae hp2;clear hp2)|refine ew λW S=>?_)
 go_ret;exact⟨rfl,HP.o,hF⟩
theorem Ej (K D:Nat)(x:GT)(hx:Bz x)(full:lf)(hfu:full.size<=1000000)(w:aD)(h:cY w K D x):
 Calls prog 19 #[.pointer (some ⟨K,0,none⟩),.string full] w λe w'=>LS w w' K D (fq x (mr full)) e:=by
 obtain⟨G,g,M,hp,hgt,hpar⟩:=h;have HX:=ae hx;have HG:=ae (And.intro hgt hpar);have S:=St.start w (some D) [K] (eP K G g D M x.s) hp.x;have eg: ∀args w,(callFunc 62 args).run prog w=.ok (.enter 62 args) w:=enters_of func62 cm rfl;have EG:=ae eg;have HC:=ae λG2 M2 g2 (hgt2:g2.gt x.s=x) (d0:Nat) W (X:bw W G2 g2 D M2 x.s) h0=>(show Calls prog 62 _ W λe w'=>sd W w' G2 D M2 g2 (mr full x) e from by
  have ht:ct g2.b.t:=by have h1:=hx.text;rw[<-hgt2] at h1;exact h1
  have hl:g2.held.length<=100000:=by have h1:=hx.mZ;rw[<-hgt2] at h1;exact h1
  have h9:=LR G2 D M2 g2 x.s ht full hfu d0 W X h0;rw[hgt2] at h9;exact h9)
 obtain⟨T,HT⟩:=qI (fq x (mr full));rw[HT.o];clear hgt hpar hx eg;go_enter func19,ntmps19
 go_wp2_with (first|(go_at_call 50;refine(ke K D x HX.o (mr full) 62 _ EG.o _ ⟨G,g,M,S.x.at,HG.o.1,HG.o.2⟩ (λG2 M2 g2 W2 hf hg hgt2=>HC.o G2 M2 g2 hgt2 _ W2 hg (ag.fr S.k0 hf (.inr rfl) (.inl rfl)))).mono ?_;rintro e W9 ⟨rfl,hp2,hf2⟩;have hF:=S.fr.step hf2 (λD e=>e) (λk hk=>.inl hk);rw[HT.o] at hp2 ⊢;have HP:=ae hp2;clear hp2)|refine ew λW S=>?_)
 go_ret;exact⟨rfl,HP.o,hF⟩
theorem I9 (K D:Nat)(x:GT)(hx:Bz x)(full:lf)(hfu:full.size<=1000000)(i:Int)(bs:aK)(ba:Option Addr)(bc:Nat)(w:aD)(h:cY w K D x)(hbs:eX w 5 (.slice ba bs.length bc) bs):
 Calls prog 34 #[.pointer (some ⟨K,0,none⟩),.string full,.int .i64 i,.slice ba bs.length bc] w λe w'=>LS w w' K D (fq x (sg full i bs)) e:=by
 obtain⟨G,g,M,hp,hgt,hpar⟩:=h;have HX:=ae hx;have HG:=ae (And.intro hgt hpar);have S:=St.start w (some D) [K] (eP K G g D M x.s) hp.x;have eg: ∀args w,(callFunc 78 args).run prog w=.ok (.enter 78 args) w:=enters_of func78 cm rfl;have EG:=ae eg;have HC:=ae λG2 M2 g2 (hgt2:g2.gt x.s=x) (d0 d1 d2:Nat) W (X:bw W G2 g2 D M2 x.s) hb h0 h1 h2=>(show Calls prog 78 _ W λe w'=>sd W w' G2 D M2 g2 (sg full i bs x) e from by
  have ht:ct g2.b.t:=by have h1:=hx.text;rw[<-hgt2] at h1;exact h1
  have hl:g2.held.length<=100000:=by have h1:=hx.mZ;rw[<-hgt2] at h1;exact h1
  have h9:=Q1 G2 D M2 g2 x.s ht hl hx.ops full hfu i bs ba bc d0 d1 d2 W X hb h0 h1 h2;rw[hgt2] at h9;exact h9)
 obtain⟨T,HT⟩:=qI (fq x (sg full i bs));rw[HT.o];clear hgt hpar hx eg;go_enter func34,ntmps34
 go_wp2_with (first|(go_at_call 50;refine(ke K D x HX.o (sg full i bs) 78 _ EG.o _ ⟨G,g,M,S.x.at,HG.o.1,HG.o.2⟩ (λG2 M2 g2 W2 hf hg hgt2=>HC.o G2 M2 g2 hgt2 _ _ _ W2 hg (eX.fr hbs (S.fr.step hf (λD e=>e) (λk hk=>.inl hk)) (.inr rfl) rfl) (ag.fr S.k2 hf (.inr rfl) (.inl rfl)) (ag.fr S.k1 hf (.inr rfl) (.inl rfl)) (ag.fr S.k0 hf (.inr rfl) (.inl rfl)))).mono ?_;rintro e W9 ⟨rfl,hp2,hf2⟩;have hF:=S.fr.step hf2 (λD e=>e) (λk hk=>.inl hk);rw[HT.o] at hp2 ⊢;have HP:=ae hp2;clear hp2)|refine ew λW S=>?_)
 go_ret;exact⟨rfl,HP.o,hF⟩
theorem LW (K D:Nat)(x:GT)(hx:Bz x)(full:lf)(hfu:full.size<=1000000)(i:Int)(w:aD)(h:cY w K D x):
 Calls prog 39 #[.pointer (some ⟨K,0,none⟩),.string full,.int .i64 i] w λe w'=>LS w w' K D (fq x (xA full i)) e:=by
 obtain⟨G,g,M,hp,hgt,hpar⟩:=h;have HX:=ae hx;have HG:=ae (And.intro hgt hpar);have S:=St.start w (some D) [K] (eP K G g D M x.s) hp.x;have eg: ∀args w,(callFunc 94 args).run prog w=.ok (.enter 94 args) w:=enters_of func94 cm rfl;have EG:=ae eg;have HC:=ae λG2 M2 g2 (hgt2:g2.gt x.s=x) (d0 d1:Nat) W (X:bw W G2 g2 D M2 x.s) h0 h1=>(show Calls prog 94 _ W λe w'=>sd W w' G2 D M2 g2 (xA full i x) e from by
  have ht:ct g2.b.t:=by have h1:=hx.text;rw[<-hgt2] at h1;exact h1
  have hl:g2.held.length<=100000:=by have h1:=hx.mZ;rw[<-hgt2] at h1;exact h1
  have h9:=UC G2 D M2 g2 x.s ht hl hx.ops full hfu i d0 d1 W X h0 h1;rw[hgt2] at h9;exact h9)
 obtain⟨T,HT⟩:=qI (fq x (xA full i));rw[HT.o];clear hgt hpar hx eg;go_enter func39,ntmps39
 go_wp2_with (first|(go_at_call 50;refine(ke K D x HX.o (xA full i) 94 _ EG.o _ ⟨G,g,M,S.x.at,HG.o.1,HG.o.2⟩ (λG2 M2 g2 W2 hf hg hgt2=>HC.o G2 M2 g2 hgt2 _ _ W2 hg (ag.fr S.k1 hf (.inr rfl) (.inl rfl)) (ag.fr S.k0 hf (.inr rfl) (.inl rfl)))).mono ?_;rintro e W9 ⟨rfl,hp2,hf2⟩;have hF:=S.fr.step hf2 (λD e=>e) (λk hk=>.inl hk);rw[HT.o] at hp2 ⊢;have HP:=ae hp2;clear hp2)|refine ew λW S=>?_)
 go_ret;exact⟨rfl,HP.o,hF⟩
def Sf (w:aD) (base D:Nat) (x:GT) (c:Int) (v:bh):Prop:=
 (c=0->∃K,v=.pointer (some ⟨K,0,none⟩)/\base<=K/\cY w K D x)/\(c≠0->v=.pointer none/\eU w D x.s.dv)
theorem OI (D:Nat)(d:Dv)(ho:d.ops<=990000000)(w:aD)(a:eU w D d):
 Calls prog 38 #[.pointer (some ⟨D,0,none⟩)] w λe w'=>∃v,e=.returned (.tuple #[v,.int .i64 (iR d).2])/\Sf w' w.heap.size D (iR d).1 (iR d).2 v/\Fr (some D) [] w w':=by
 have S:=St.start w (some D) [] (dB D d) a;have C1:=ae λW (X:eU W D d)=>I6 D d ho W X;obtain⟨T,hT⟩:=cM (iR d);rw[hT] at C1 ⊢;obtain⟨x,c⟩:=T;simp only at C1 ⊢;clear a hT;go_enter func38,ntmps38
 go_upto_region 2 with(go_at_call 93;refine(C1.o _ S.x).mono ?_;rintro e W ⟨v,rfl,hg,hf⟩;have HG:=ae hg;have HF:=ae hf;clear hg)
 by_cases g2:c=0
 case neg=>
  have g3: (c != 0)=true:=lh.2 g2;have HC:=ae g2;clear g2;go_wp2;go_ret2;exact⟨_,rfl,⟨λh=>absurd h HC.o,λ_=>⟨rfl,(HG.o.2 HC.o).2⟩⟩,HF.o⟩
 subst g2;obtain⟨G,g,M,rfl,hG,hP,hM,hga,hgt,hpar⟩:=HG.o.1 rfl;have HR:=ae (And.intro hgt hpar);replace S:=S.Bt HF.o (λD e=>e) fh (c8 G g D M x.s) hga.x;clear hG hP hM hga hgt hpar HG HF
 go_wp2_with (first|((with_reducible refine aY 15 101 ?_);refine eW (cells:=ah 1 (λ_=>bZ G 0)) rfl cm ?_)|((with_reducible refine gT 16 101 15 ?_);refine Gz S rfl rfl rfl λK W hK S=>?_))
 go_ret2;exact⟨_,rfl,⟨λ_=>⟨K,rfl,hK,⟨G,g,M,⟨S.x.2,S.x.1.at⟩,HR.o.1,by have h1:g.held=x.held:=iS GT.held HR.o.1;rw[<-h1];exact HR.o.2⟩⟩,λh=>absurd rfl h⟩,S.fr⟩
theorem LX (D:Nat)(d:Dv)(w:aD)(a:eU w D d):
 Calls prog 17 #[.pointer (some ⟨D,0,none⟩)] w λe w'=>∃v,e=.returned (.tuple #[v,.int .i64 (kK d).2])/\Sf w' w.heap.size D (kK d).1 (kK d).2 v/\Fr (some D) [] w w':=by
 have S:=St.start w (some D) [] (dB D d) a;have C1:=ae λW (X:eU W D d)=>I7 D d W X;obtain⟨T,hT⟩:=cM (kK d);rw[hT] at C1 ⊢;obtain⟨x,c⟩:=T;simp only at C1 ⊢;clear a hT;go_enter func17,ntmps17
 go_upto_region 2 with(go_at_call 60;refine(C1.o _ S.x).mono ?_;rintro e W ⟨v,rfl,hg,hf⟩;have HG:=ae hg;have HF:=ae hf;clear hg)
 by_cases g2:c=0
 case neg=>
  have g3: (c != 0)=true:=lh.2 g2;have HC:=ae g2;clear g2;go_wp2;go_ret2;exact⟨_,rfl,⟨λh=>absurd h HC.o,λ_=>⟨rfl,(HG.o.2 HC.o).2⟩⟩,HF.o⟩
 subst g2;obtain⟨G,g,M,rfl,hG,hP,hM,hga,hgt,hpar⟩:=HG.o.1 rfl;have HR:=ae (And.intro hgt hpar);replace S:=S.Bt HF.o (λD e=>e) fh (c8 G g D M x.s) hga.x;clear hG hP hM hga hgt hpar HG HF
 go_wp2_with (first|((with_reducible refine aY 15 101 ?_);refine eW (cells:=ah 1 (λ_=>bZ G 0)) rfl cm ?_)|((with_reducible refine gT 16 101 15 ?_);refine Gz S rfl rfl rfl λK W hK S=>?_))
 go_ret2;exact⟨_,rfl,⟨λ_=>⟨K,rfl,hK,⟨G,g,M,⟨S.x.2,S.x.1.at⟩,HR.o.1,by have h1:g.held=x.held:=iS GT.held HR.o.1;rw[<-h1];exact HR.o.2⟩⟩,λh=>absurd rfl h⟩,S.fr⟩
theorem St.Y0 {w1 w2:aD}{G M G2 M2:Nat}{g g2 g3:dK}{s s2:Pl}(S:St w (some D) [K] [] [] (λB w=>rn K G g D M s B w/\kM G2 g2 D M2 s B w) w1)(hN: (w.heap.size<=G2/\w.heap.size<=g2.P/\w.heap.size<=M2)/\K<w.heap.size/\G<w.heap.size/\g.P<w.heap.size/\M<w.heap.size)(hg:bw w2 G2 g3 D M2 s2)(hf:Fr (some D) [G2,M2,g2.P] w1 w2):
 St w (some D) [K] [] [] (λB w=>rn K G g D M {s with dv:=s2.dv} B w/\kM G2 g3 D M2 s2 B w) w2:=by
 obtain⟨⟨n1,n2,n3⟩,k1,k2,k3,k4⟩:=hN;have hno: ∀k,k<w.heap.size->k∉ [G2,M2,g2.P]:=λk hk hm=>by
  grind
 have hold:=bw.beside S.x.1.1.at hg hf (hno G k2) (hno M k4) (hno _ k3);refine S.Bt hf (λD e=>e) (λk hk=>?_) ((eP K G g D M _).and (c8 G2 g3 D M2 s2)) ⟨⟨hold.x,ag.fr S.x.1.2 hf (.inr rfl) (.inr (hno K k1))⟩,hg.x⟩
 grind
theorem LY (K D:Nat)(x:GT)(hx:Bz x)(w:aD)(h:cY w K D x):
 Calls prog 15 #[.pointer (some ⟨K,0,none⟩)] w λe w'=>LS w w' K D (fq x pL) e:=by
 obtain⟨G,g,M,h,hgt,hpar⟩:=h;have HPAR:=ae hpar;obtain⟨s,hs⟩:=cM x.s;rw[hs] at h hgt;obtain rfl:=hgt;have S:=St.start w (some D) [K] (eP K G g D M s) h.x;have C1:=ae λW (X:nR W K G g D M s)=>vu K G D M g s W X;have C2:=ae λW (X:bw W G g D M s)=>DH G D M g s hx.text.fit (kL hx.mZ nh) W X;have C3:=ae λG2 M2 (g2:dK) W X (hg:g2.gt s=g.gt s)=>(show Calls prog 59 #[bZ G2 0] W λe W'=>sd W W' G2 D M2 g2 (pL (g.gt s)) e from by
  have h1:g2.b.t=g.b.t:=iS GT.b hg;have h2:g2.held=g.held:=iS GT.held hg;rw[<-hg];exact Ok G2 D M2 g2 s (by rw[h1];exact hx.text) (by rw[h2];exact hpar) (by rw[h2];exact hx.mZ) hx.ops W X)
 have HK:=ae (show fq (g.gt s) pL=if s.dv.dead=true then(g.gt s,42) else zV (g.gt s) (pL (g.gt s)) from rfl);obtain⟨T,hT⟩:=cM (fq (g.gt s) pL);obtain⟨r,hr⟩:=cM (pL (g.gt s));obtain⟨dd,hdd⟩:=cM s.dv.dead;rw[hT,hr,hdd] at HK;rw[hT];rw[hr] at C3;rw[hdd] at C1;have H0:=ae h;clear h hs hT hr hdd hx hpar;go_enter func15,ntmps15;cases dd with
 | true=>
  rw[bC rfl] at HK
  go_wp2_with (go_at_call 46;refine qJ (C1.o _ S.x.at) ?_;)
  go_ret;rw[HK.o];exact⟨rfl,⟨G,g,M,S.x.at,rfl,HPAR.o⟩,S.fr⟩
 | false=>
  rw[bX nh] at HK;obtain⟨y,c⟩:=r
  go_upto_region 5 with(first|(go_at_call 46;refine qJ (C1.o _ S.x.at) ?_;)|((with_reducible refine pP ?_);refine BN (v:=bZ G 0) (ag.cell S.x.2 (i:=0) au) ?_)|(go_at_call 58;refine(C2.o _ S.x.at.A7).mono ?_;rintro e W ⟨G2,g2,M2,rfl,hG2,hP2,hM2,hg,hgt,hb⟩;have HN:=ae (And.intro (And.intro hG2 (And.intro hP2 hM2)) (And.intro (ag.lt H0.o.row) (And.intro (ag.lt H0.o.A7.row) (And.intro (ag.lt H0.o.A7.ft.row) (ag.lt H0.o.A7.ft.map)))));have HGT2:=ae hgt;replace S:=(S.below hb).Us ((eP K G g D M s).and (c8 G2 g2 D M2 s)) ⟨(S.below hb).x,hg.x⟩;clear hG2 hP2 hM2 hg hgt)|(go_at_call 59;refine(C3.o G2 M2 g2 _ S.x.2.at HGT2.o).mono ?_;rintro e W2 hK;have HKR:=ae hK;obtain⟨g3,s3,rfl,hP,hg,hgt3,hpp,hf⟩:=HKR.o;clear HKR;have HG3:=ae hgt3;have HPP:=ae hpp;have hS:=S.Y0 HN.o hg hf;clear S hP hg hgt3 hpp;have S:=hS;clear hS))
  unfold zV at HK;by_cases g5:c=0
  case neg=>
   have g4: (c != 0)=true:=lh.2 g5;rw[bC g5] at HK;clear g5;go_wp2;go_ret;rw[HK.o];have hd:s3.dv=y.s.dv:=by rw[<-HG3.o];rfl
   have hx1:=S.x.1.at;rw[hd] at hx1;exact⟨rfl,⟨G,g,M,hx1,rfl,HPAR.o⟩,S.fr⟩
  subst g5;rw[bX (show ¬((0:Int)≠0) from λh=>h rfl)] at HK;obtain rfl:=HG3.o;clear HG3
  go_wp2_with ((with_reducible refine aS 69 20 18 ?_);have hR:=S.x.1.2;have hg: ∀j,j<1->(λ_=>bZ G2 0:Nat->bh) j=if j=0 then bZ G2 0 else(λ_=>bZ G 0:Nat->bh) j:=λj hj=>(bC (show j=0 from Nat.lt_one_iff.1 hj)).symm;refine Xg hR 0 au rfl rfl rfl vS (λ_=>bZ G2 0) hg ?_;clear hR hg;intro W9 hb hr;replace S:=S.Se hb hr;clear hr)
  go_ret;rw[HK.o];exact⟨rfl,⟨G2,g3,M2,S.x.at,rfl,HPP.o (by rw[show g2.held=g.held from iS GT.held HGT2.o];exact HPAR.o)⟩,S.fr⟩
structure pq (x:GT) (N:Nat):Prop where
 text:ct x.b
 mZ:x.held.length<=100000
 ops:x.s.dv.ops<=N
theorem pq.ok {x:GT}(h:pq x N)(hN:N<=990000000):Bz x:=⟨h.text,h.mZ,kL h.ops hN⟩
theorem pq.le {x:GT} {N M:Nat} (h:pq x N) (hN:N<=M):pq x M:=⟨h.text,h.mZ,kL h.ops hN⟩
theorem Sg {x:GT} {N:Nat} (h:pq x N) {k:GT->GT×Int} (hk:pq (k x).1 (N+20000)):pq (fq x k).1 (N+20000):=by
 unfold fq;split
 . exact h.le (Eo _ _)
 . unfold zV;split
   . exact⟨h.text,h.mZ,hk.ops⟩
   . exact hk
theorem OJ {x:GT}(h:pq x N){r:cL×Int}(hr:ct r.1):pq (xx x r).1 N:=by
 unfold xx;split
 . exact h
 . exact⟨hr,h.mZ,h.ops⟩
theorem UF {x:GT}(h:pq x N)(full:lf)(n:Int):pq (oW full n x).1 N:=by
 unfold oW;split
 . exact h
 . exact OJ h (vT h.text _ _)
theorem Xx {x:GT}(h:pq x N)(f t:lf):pq (sf f t x).1 N:=by
 unfold sf;split
 . exact h
 . exact OJ h (xv h.text _ _)
theorem Y1 {x:GT}(h:pq x N)(f:lf):pq (xy f x).1 N:=by
 unfold xy;split
 . exact h
 split
 . exact h
 . exact⟨za h.text _ _,h.mZ,h.ops⟩
theorem Q3 {x:GT}(h:pq x N)(f:lf):pq (mq f x).1 N:=by
 unfold mq;split
 . exact h
 . exact⟨uK h.text _,h.mZ,h.ops⟩
theorem Xy {x:GT} {N:Nat} (h:pq x N) {b:cL} (hb:ct b) (old:cu):pq (Cs b old x).1 (N+9):=by
 have h1:=Oj x.s old.root (iO x.b.bO old.id);have h2:=h.ops;unfold Cs EH;split
 . exact⟨h.text,h.mZ,by grind⟩
 . refine⟨hb,h.mZ,?_⟩
   grind[uI]
theorem OK {x:GT}(h:pq x N)(hr:ct r.1):pq (xz x r).1 (N+9):=by
 unfold xz;split
 . exact h.le (Eo _ _)
 grind[Xy]
theorem Y2 {x:GT} {N:Nat} (h:pq x N) (f:lf):pq (zi f x).1 (N+9):=OK h (zd h.text f).1
theorem Q4 {x:GT} {N:Nat} (h:pq x N) (f:lf):pq (mr f x).1 (N+9):=by
 unfold mr;cases dQ f with
 | none=>exact h.le (Eo _ _)
 | some p=>
  simp only[E'];split
  . exact OK h (uL h.text f).1
  . have hd:=tq h.text f;unfold LK;split
    . exact h.le (Eo _ _)
    split
    . exact h.le (Eo _ _)
    . refine⟨hd.1,h.mZ,?_⟩;show(dI x.s (dJ x.b f).2.1).dv.ops<=_;rw[uI];exact kL h.ops (Eo _ _)
theorem Y3 {x:GT} {N:Nat} (h:pq x N) (id:Nat) {q:aq} (hq:bt q) {old:List aq} (ho:cx old):pq (DR id q old x).1 N:=by
 have hd:=ze (BB h.text id hq) id old ho;unfold DR LL;split
 . exact h
 . refine⟨hd.1,h.mZ,?_⟩;show(dI x.s _).dv.ops<=_;rw[uI];exact h.ops
theorem Sh {x:GT} {N:Nat} (h:pq x N) (id:Nat) {t:Pl×(aq×(List aq×Int))} (ht:t.1.dv.ops<=N+5) (hq:bt t.2.1) (ho:cx t.2.2.1):pq (DS id x t).1 (N+5):=by
 have h2:pq {x with s:=t.1} (N+5):=⟨h.text,h.mZ,ht⟩
 grind[DS,Y3]
theorem Xz {x:GT}(h:pq x N)(hd:nO x.s.dv)(hs:ll x.s.ay)(f:lf)(i:Int)(bs:aK):pq (sg f i bs x).1 (N+5):=by
 have hv:=(EJ h.text f i).2.2.1;have hp:=zh hd hs hv i bs;have ho:=Oh x.s (uG x.b f i).1.root i bs;have h2:=h.ops;unfold sg;split
 . exact h.le (Eo _ _)
 split
 . exact h.le (Eo _ _)
 grind[Sh]
theorem Y4 {x:GT}(h:pq x N)(hd:nO x.s.dv)(hs:ll x.s.ay)(f:lf)(i:Int):pq (xA f i x).1 (N+5):=by
 have hv:=(EJ h.text f i).2.2.1;have hp:=xw hd hs hv i;have ho:=LB x.s (uG x.b f i).1.root i;have h2:=h.ops;unfold xA;split
 . exact h.le (Eo _ _)
 grind[Sh]
theorem GR {x:GT} {N:Nat} (h:pq x N):pq (nF x).1 (N+20000):=by
 have h1:=Bv x.s x.b x.held;have h2:=Gy (gW x.s x.b x.held).1.dv (Gv x (gW x.s x.b x.held));have h3:=h.ops;unfold nF uJ;split
 . exact⟨h.text,h.mZ,by grind⟩
 split
 . exact⟨h.text,h.mZ,by grind⟩
 . exact⟨h.text,kL (y6 _ _ _) nh,by show(dr _ _).1.ops<=_;omega⟩
theorem XA {x:GT} {N:Nat} (h:pq x N):pq (pL x).1 (N+20000):=by
 have h0:=h.le (Eo N 20000)
 grind[pL,GR]
theorem Q5 (d:Dv):pq (iR d).1 (d.ops+20000):=by
 have h:pq (tU d) d.ops:=⟨GP,kf _,eO _⟩;unfold iR;split
 . exact h.le (Eo _ _)
 . exact GR h
theorem BJ (d:Dv):pq (xE d) d.ops:=⟨vA,kf _,eO _⟩
theorem Q6 (d:Dv)(h:y8 d.nw):pq (kK d).1 (d.ops+20004):=by
 obtain⟨h1,h2,-⟩:=xu d h;unfold kK;split
 . exact(BJ d).le (Eo _ _)
 unfold yk;have hn:=(BJ (eu d).1).le (show(eu d).1.ops<=d.ops+20004 by omega);split
 . exact hn
 split
 . exact hn
 split
 . exact hn
 have hm:=GC ⟨(eu d).1,xR (eu d).1.n,0,0⟩ rE ((eu d).2.getD nL).table;generalize iu ⟨(eu d).1,xR (eu d).1.n,0,0⟩ ((eu d).2.getD nL).table=r at hm ⊢;obtain⟨m1,m2,m3,-⟩:=hm;simp only at m3;unfold Cv;split
 . exact(BJ r.1.dv).le au
 split
 . exact(BJ r.1.dv).le au
 . exact⟨m1,kL m2 nh,by grind⟩
theorem XB {x:GT}(h:pq x N)(f:lf)(i:Int):pq (qH f i x).1 (N+3):=by
 have h0:=h.le (Eo N 3);have ho:=Og x.s (qQ x.b f i).1.root i;have h2:=h.ops;unfold qH;split
 . exact h0
 unfold BI;split
 . exact h0
 unfold EK;split
 . exact⟨h.text,h.mZ,by grind⟩
 . exact⟨h.text,h.mZ,by grind⟩
theorem cY.facts {x:GT}(h:cY w K D x):nO x.s.dv/\ll x.s.ay:=by
 obtain⟨G,g,M,hp,-,-⟩:=h;exact⟨hp.A7.ft.dev.1,hp.A7.ft.ok.1⟩
abbrev wu:=Dv ⊕ GT
def vC (o:xH):aK:=sY (o.data.take 128)
def sk (x:GT) (o:xH):GT×(aK×Int):=
 let put (r:GT×Int):GT×(aK×Int):=(r.1,(aX,r.2))
 if o.kind=0 then put (fq x (oW o.name o.n))
 else if o.kind=1 then put (fq x (sg o.name o.n o.data))
 else if o.kind=2 then put (fq x (xA o.name o.n))
 else if o.kind=3 then qH o.name o.n x
 else if o.kind=4 then put (fq x (xy o.name))
 else if o.kind=5 then put (fq x (sf o.name o.BE))
 else if o.kind=6 then put (fq x (mq o.name))
 else if o.kind=7 then put (fq x (zi o.name))
 else if o.kind=8 then put (fq x (mr o.name))
 else if o.kind=9 then put (fq x pL)
 else(x,(aX,0))
def tu:wu->Dv
 | .inl d=>d
 | .inr x=>x.s.dv
def Kj:wu->Dv->wu
 | .inl _,d=>.inl d
 | .inr x,d=>.inr (asked x d)
def nU (r:GT×Int):wu:=if r.2=0 then .inr r.1 else .inl r.1.s.dv
noncomputable def mw (s:wu) (o:xH):wu×(aK×Int):=
 if o.kind=10 then(Kj s (zq (tu s) o.n),(aX,0))
 else if o.kind=11 then(nU (kK (qy (tu s) o.bS)),(aX,(kK (qy (tu s) o.bS)).2))
 else if o.kind=12 then(Kj s (uv (tu s) o.n (vC o)).1,(aX,(uv (tu s) o.n (vC o)).2))
 else match s with
  | .inl d=>(.inl d,(aX,91))
  | .inr x=>(.inr (sk x o).1,(sk x o).2)
noncomputable def lX:wu->List xH->wu×List (aK×Int)
 | s,[]=>(s,[])
 | s,o::l=>((lX (mw s o).1 l).1,(mw s o).2:: (lX (mw s o).1 l).2)
def Q7 (K D:Nat) (x:GT):aK->aD->Prop:=λB w=>∃G g M,rn K G g D M x.s B w/\g.gt x.s=x/\cx x.held
theorem vD (K D:Nat)(x:GT):gX (some D) (Q7 K D x):=
 ⟨λ⟨G,g,M,h,e⟩ b=>⟨G,g,M,(eP K G g D M x.s).below h b,e⟩,λ⟨G,g,M,h,e⟩ b=>⟨G,g,M,(eP K G g D M x.s).add h b,e⟩,λ⟨G,g,M,h,e⟩ b=>⟨G,g,M,(eP K G g D M x.s).mono h b,e⟩,
  λ⟨G,g,M,h,e⟩ b c t u v=>⟨G,g,M,(eP K G g D M x.s).but h b c t u v,e⟩,λ⟨G,g,M,h,_⟩ f=>(eP K G g D M x.s).dev h f⟩
theorem Q7.at {x:GT}(h:Q7 K D x B w):cY w K D x:=by
 obtain⟨G,g,M,h1,e⟩:=h;exact⟨G,g,M,h1.at,e⟩
theorem cY.xB {x:GT}(h:cY w K D x)(hB: ∀b∈B,du w b≠some 109/\du w b≠some 106):Q7 K D x B w:=by
 obtain⟨G,g,M,h1,e⟩:=h;exact⟨G,g,M,⟨h1.A7.xB hB,h1.row⟩,e⟩
theorem cY.x {x:GT}(h:cY w K D x):Q7 K D x [] w:=h.xB λ_ h=>absurd h kz
theorem cY.dev {x:GT}(h:cY w K D x):eU w D x.s.dv:=by
 obtain⟨G,g,M,h1,e⟩:=h;exact h1.A7.ft.dev
def abC (D:Nat) (d:Dv):aK->aD->Prop:=λ_ w=>eU w D d
def Zg (D:Nat) (s:wu) (v:bh):aK->aD->Prop:=λB w=>match s with
 | .inl d=>v=.pointer none/\abC D d B w
 | .inr x=>∃K,v=.pointer (some ⟨K,0,none⟩)/\Q7 K D x B w
def rB (w:aD) (D:Nat) (s:wu) (v:bh):Prop:=match s with
 | .inl d=>v=.pointer none/\eU w D d
 | .inr x=>∃K,v=.pointer (some ⟨K,0,none⟩)/\cY w K D x
theorem gX.imp {p:Prop}(h:gX d X):gX d (λB w=>p/\X B w):=
 ⟨λa b=>⟨a.1,h.below a.2 b⟩,λa b=>⟨a.1,h.add a.2 b⟩,λa b=>⟨a.1,h.mono a.2 b⟩,λa b c t u f=>⟨a.1,h.but a.2 b c t u f⟩,λa f=>h.dev a.2 f⟩
theorem LZ (D:Nat)(s:wu)(v:bh):gX (some D) (Zg D s v):=by
 cases s with
 | inl d=>exact(show gX (some D) (abC D d) from dB D d).imp
 | inr x=>exact⟨λ⟨K,e,h⟩ b=>⟨K,e,(vD K D x).below h b⟩,λ⟨K,e,h⟩ b=>⟨K,e,(vD K D x).add h b⟩,λ⟨K,e,h⟩ b=>⟨K,e,(vD K D x).mono h b⟩,λ⟨K,e,h⟩ b c t u f=>⟨K,e,(vD K D x).but h b c t u f⟩,λ⟨K,_,h⟩ f=>(vD K D x).dev h f⟩
theorem Zg.at {s:wu}(h:Zg D s v B w):rB w D s v:=by
 cases s with
 | inl d=>exact h
 | inr x=>obtain⟨K,e,h⟩:=h;exact⟨K,e,h.at⟩
theorem rB.xB {s:wu}(h:rB w D s v)(hB: ∀b∈B,du w b≠some 109/\du w b≠some 106):Zg D s v B w:=by
 cases s with
 | inl d=>exact h
 | inr x=>obtain⟨K,e,h⟩:=h;exact⟨K,e,h.xB hB⟩
theorem rB.x {s:wu}(h:rB w D s v):Zg D s v [] w:=h.xB λ_ h=>absurd h kz
theorem rB.dev {s:wu}(h:rB w D s v):eU w D (tu s):=by
 cases s with
 | inl d=>exact h.2
 | inr x=>obtain⟨K,e,h⟩:=h;exact h.dev
section
variable {w':aD}{l2:aK}
theorem St.Q8 (S:St w0 (some D) l L O X w){s:wu}(h:rB w' D s v)(f:Fr (some D) l2 w w')(hl: ∀k∈l2,k∈l∨w0.heap.size<=k)(hL: ∀r∈L,r.t≠109/\r.t≠106)(hO: ∀o∈O,o.e≠109/\o.e≠106):St w0 (some D) l L O (Zg D s v) w':=by
 have S1:=S.Bt f (λ_ e=>e) hl (dB D (tu s)) h.dev;refine S1.Us (LZ D s v) (h.xB λb hb=>?_);rcases dx.1 hb with⟨r,hr,rfl⟩ | ⟨o,ho,e⟩
 . rw[ag.ty (S1.row r hr).1]
   grind
 . rw[lP (S1.own o ho).1 e]
   grind
theorem St.tV (S:St w0 (some D) l L O X w){x:GT}(h:cY w' K D x)(f:Fr (some D) l2 w w')(hl: ∀k∈l2,k∈l∨w0.heap.size<=k)(hL: ∀r∈L,r.t≠109/\r.t≠106)(hO: ∀o∈O,o.e≠109/\o.e≠106):St w0 (some D) l L O (Q7 K D x) w':=
 (St.Q8 (s:=.inr x) S ⟨K,rfl,h⟩ f hl hL hO).Us (vD K D x) (by
  have h9:=(St.Q8 (s:=.inr x) S ⟨K,rfl,h⟩ f hl hL hO).x;obtain⟨K',e,h9⟩:=h9
  grind)
end
def jQ (r:aK×Int):Nat->bh:=λi=>if i=0 then .int .i64 r.2 else aw r.1 (i - 1)
theorem jR (r:aK×Int): ∀i,(jQ r i).oneCell'=true:=by
 intro i;unfold jQ;split
 . rfl
 rfl
instance inbc77e (r:aK×Int):OF (jQ r):=⟨jR r⟩
theorem Cw:fu prog 38 129:=⟨⟨_,underlying38,rfl⟩,cm⟩
instance in91779 :td 38 129:=⟨Cw⟩
theorem jM:zeroCells38=ah 129 (jQ (aX,0)):=cm
instance ind4ac6 :ZR 38 129 (jQ (aX,0)):=⟨_,OL,jM⟩
theorem aaw {b n:Nat}{f:Nat->bh}(h:ag w b t n f)(hf: ∀i,i<n->f' i=if o<=i/\i<o+m then g (i - o) else f i):ag (w.setCells b o (ah m g).toList) b t n f':=by
 refine ag.congr (ag.setCells _ o h) λj hj=>?_;unfold D6;rw[p9,aj];by_cases hk:o<=j/\j<o+m
 . rw[bC hk,wV m _ j o hk,hf j hj,bC hk]
 grind
section
variable {x y:Nat}{ty t2:dD}
theorem aax (S:St w0 d l L O X w){K:Act->aD->Prop}(k:Nat){r:R4}(hk:L[k]? =some r)(hm:o+m<=r.n)(hx:a.eval (.tmp x)=.pointer (some ⟨r.b,o,none⟩))(hy:a.eval (.tmp y)=.agg A)(hA:A=ah m g)(ht:fu P ty m)(h1: ∀i,(g i).oneCell'=true)(hf: ∀i,i<r.n->f' i=if o<=i/\i<o+m then g (i - o) else r.f i)(h: ∀W,St w0 d l (L.set k ⟨r.b,r.t,r.n,f'⟩) O X W->K (a.put none undef) W):Oper.wp P ⟨none,.store ty (.tmp x) (.tmp y),t2,p,af,none⟩ a w K Q:=by
 subst hA;have hr:=S.ee hk;have hth:=iz hr (o:=o) (n:=m) hm;have hl: (ah m g).toList.length=m:=by grind[aj]
 have hst:=Tz (P:=P) r.b o (ah m g).toList 0 w (λj hj=>by rw[hl] at hj;simpa using(hth j hj).1) (λj hj=>by rw[hl] at hj;simpa using(hth j hj).2) (λu hu=>by
  grind[iv,Array.all_eq_true_iff_forall_mem])
 have h2: (storeVar ty ⟨r.b,o,none⟩ (.agg (ah m g))).run P w=.ok () (w.setCells r.b o (ah m g).toList):=by
  cases hq:P.info? ty with
  | none=>have:=ht.2;grind
  | some it=>
   have hs:it.size=m:=by have:=ht.2;grind
   have hc: (Value.agg (ah m g)).cells=ah m g:=rfl
   simp_all[storeVar,sizeOf,typeInfo]
 unfold Oper.wp execOp;simp only[hx,hy,Instr.storeAt,Instr.sureAddr,py,wB,rj,h2];exact h _ (S.modify hk f' (ek.setCells _ _ _ _) (aaw hr hf))
end
theorem nG (s:aK)(c c':Int)(i:Nat):jQ (s,c) i=if i=0 then .int .i64 c else jQ (s,c') i:=by
 grind[jQ]
theorem XC (bs:aK)(c:Int)(i:Nat)(hi:i<129):jQ (bs,c) i=if 1<=i/\i<1+128 then aw bs (i - 1) else jQ (aX,c) i:=by
 unfold jQ
 grind
theorem Y5 (K D:Nat)(x:GT)(hx:Bz x)(o:qw)(hop:EI o.toxH)(hda:q7 o)(hk:o.kind<=9)(ob p:Nat)(w:aD)(h:cY w K D x)(HO: ∀W,Fr (some D) [K] w W->tS W ob p o/\XP o [] W):
 Calls prog 139 #[.pointer (some ⟨K,0,none⟩),.pointer (some ⟨ob,p,none⟩)] w λe w'=>∃B,e=.returned (.agg B)/\B=ah 129 (jQ (sk x o.toxH).2)/\cY w' K D (sk x o.toxH).1/\Fr (some D) [K] w w':=by
 obtain⟨o,da,dc,ka,kc⟩:=o;simp only at hop hk;have S:=St.start w (some D) [K] (vD K D x) h.x;have H0:Hid (∀W,Fr (some D) [K] w W->W.cell? ⟨ob,p,none⟩=some (.int .i64 o.kind)):=ae λW f=>(HO W f).1.c0;have H1:Hid (∀W,Fr (some D) [K] w W->W.cell? ⟨ob,p+1,none⟩=some (.string o.name)):=ae λW f=>(HO W f).1.c1;have H2:Hid (∀W,Fr (some D) [K] w W->W.cell? ⟨ob,p+2,none⟩=some (.string o.BE)):=ae λW f=>(HO W f).1.c2;have H3:Hid (∀W,Fr (some D) [K] w W->W.cell? ⟨ob,p+3,none⟩=some (.int .i64 o.n)):=ae λW f=>(HO W f).1.c3;have H4:Hid (∀W,Fr (some D) [K] w W->W.cell? ⟨ob,p+4,none⟩=some (.slice da o.data.length dc)):=ae λW f=>(HO W f).1.c4;have HB:Hid (∀W,Fr (some D) [K] w W->eX W 5 (.slice da o.data.length dc) o.data):=ae λW f=>⟨(HO W f).2.1.1,hda.2⟩;have hname:o.name.size<=1000000:=kL hop.name nh;have htoN:o.BE.size<=1000000:=kL hop.BE nh;have hkk:=hop.kind;obtain⟨T,HT⟩:=qI (sk x o);simp only[HT.o];have hcase:o.kind=0∨o.kind=1∨o.kind=2∨o.kind=3∨o.kind=4∨o.kind=5∨o.kind=6∨o.kind=7∨o.kind=8∨o.kind=9:=au;clear h HO hop hda hk hkk;rcases hcase with hk | hk | hk | hk | hk | hk | hk | hk | hk | hk;rw[hk] at H0;obtain⟨r,hr⟩:=cM (fq x (oW o.name o.n));obtain rfl: (r.1,(aX,r.2))=T:=by rw[<-HT.o,<-hr];unfold sk;simp only[hk];rfl
 have C:=ae λW (X:cY W K D x)=>GQ K D x hx o.name hname o.n W X;rw[hr] at C;obtain⟨y,c⟩:=r;simp only at C ⊢;clear hk hr;go_enter func139,ntmps139
 focus go_upto_region 4 with(first|(with_reducible refine jo 9 3 8 (H0.o _ S.fr) ?_)|((with_reducible refine dH 4 38 ?_);refine gD S OL jM rfl λW1 S=>?_)|refine ew λW S=>?_)
 refine bf S cm [] (by intro r hr;cases hr) λW S=>?_;refine bp 0 12 _ ?_;refine bp 1 13 _ ?_;refine bp 2 14 (bZ ob p) ?_;refine bp 3 15 (bZ ob (p+1)) ?_;refine gY 4 16 (.string o.name) rfl (bP (λw h=>H1.o _ h.fr) rfl pY) ?_;refine bp 5 17 _ ?_;refine bp 6 18 (bZ ob p) ?_;refine bp 7 19 (bZ ob (p+3)) ?_;refine gY 8 20 (.int .i64 o.n) rfl (bP (λw h=>H3.o _ h.fr) rfl kX) ?_;refine mO 9 λK hK=>?_
 focus go_wp2_with fail
 refine(C.o _ S.x.at).mono ?_;rintro e W ⟨rfl,hp,hf⟩;replace S:=S.tV hp hf fh rE (by intro o ho;cases ho);refine gM hK ?_;refine bp 10 22 (bZ W1.heap.size 0) ?_;refine mO 11 λK hK=>?_;refine Hq S 0 rfl 0 (v:=.int .i64 c) qv rfl rfl rfl qR λW S=>?_;refine gM hK ?_;refine uy ?_;replace S:=S.ld (k:=0) rfl (g:=jQ (aX,c)) (λi _=>nG _ _ _ i);obtain⟨RR,hRR⟩:=gq (ah 129 (jQ (aX,c)))
 rotate_left
 rw[hk] at H0;obtain⟨r,hr⟩:=cM (fq x (sg o.name o.n o.data));obtain rfl: (r.1,(aX,r.2))=T:=by rw[<-HT.o,<-hr];unfold sk;simp only[hk];rfl
 have C:=ae λW (X:cY W K D x) (hb9:eX W 5 (.slice da o.data.length dc) o.data)=>I9 K D x hx o.name hname o.n o.data da dc W X hb9;rw[hr] at C;obtain⟨y,c⟩:=r;simp only at C ⊢;clear hk hr;go_enter func139,ntmps139
 focus go_upto_region 6 with(first|(with_reducible refine jo 9 3 8 (H0.o _ S.fr) ?_)|((with_reducible refine dH 4 38 ?_);refine gD S OL jM rfl λW1 S=>?_)|refine ew λW S=>?_)
 refine bf S cm [] (by intro r hr;cases hr) λW S=>?_;refine bp 0 25 _ ?_;refine bp 1 26 _ ?_;refine bp 2 27 (bZ ob p) ?_;refine bp 3 28 (bZ ob (p+1)) ?_;refine gY 4 29 (.string o.name) rfl (bP (λw h=>H1.o _ h.fr) rfl pY) ?_;refine bp 5 30 _ ?_;refine bp 6 31 (bZ ob p) ?_;refine bp 7 32 (bZ ob (p+3)) ?_;refine gY 8 33 (.int .i64 o.n) rfl (bP (λw h=>H3.o _ h.fr) rfl kX) ?_;refine bp 9 34 _ ?_;refine bp 10 35 (bZ ob p) ?_;refine bp 11 36 (bZ ob (p+4)) ?_;refine gY 12 37 (.slice da o.data.length dc) rfl (bP (λw h=>H4.o _ h.fr) rfl pe) ?_;refine mO 13 λK hK=>?_
 focus go_wp2_with fail
 refine(C.o _ S.x.at (HB.o _ S.fr)).mono ?_;rintro e W ⟨rfl,hp,hf⟩;replace S:=S.tV hp hf fh rE (by intro o ho;cases ho);refine gM hK ?_;refine bp 14 39 (bZ W1.heap.size 0) ?_;refine mO 15 λK hK=>?_;refine Hq S 0 rfl 0 (v:=.int .i64 c) qv rfl rfl rfl qR λW S=>?_;refine gM hK ?_;refine uy ?_;replace S:=S.ld (k:=0) rfl (g:=jQ (aX,c)) (λi _=>nG _ _ _ i);obtain⟨RR,hRR⟩:=gq (ah 129 (jQ (aX,c)))
 rotate_left
 rw[hk] at H0;obtain⟨r,hr⟩:=cM (fq x (xA o.name o.n));obtain rfl: (r.1,(aX,r.2))=T:=by rw[<-HT.o,<-hr];unfold sk;simp only[hk];rfl
 have C:=ae λW (X:cY W K D x)=>LW K D x hx o.name hname o.n W X;rw[hr] at C;obtain⟨y,c⟩:=r;simp only at C ⊢;clear hk hr;go_enter func139,ntmps139
 focus go_upto_region 8 with(first|(with_reducible refine jo 9 3 8 (H0.o _ S.fr) ?_)|((with_reducible refine dH 4 38 ?_);refine gD S OL jM rfl λW1 S=>?_)|refine ew λW S=>?_)
 refine bf S cm [] (by intro r hr;cases hr) λW S=>?_;refine bp 0 42 _ ?_;refine bp 1 43 _ ?_;refine bp 2 44 (bZ ob p) ?_;refine bp 3 45 (bZ ob (p+1)) ?_;refine gY 4 46 (.string o.name) rfl (bP (λw h=>H1.o _ h.fr) rfl pY) ?_;refine bp 5 47 _ ?_;refine bp 6 48 (bZ ob p) ?_;refine bp 7 49 (bZ ob (p+3)) ?_;refine gY 8 50 (.int .i64 o.n) rfl (bP (λw h=>H3.o _ h.fr) rfl kX) ?_;refine mO 9 λK hK=>?_
 focus go_wp2_with fail
 refine(C.o _ S.x.at).mono ?_;rintro e W ⟨rfl,hp,hf⟩;replace S:=S.tV hp hf fh rE (by intro o ho;cases ho);refine gM hK ?_;refine bp 10 52 (bZ W1.heap.size 0) ?_;refine mO 11 λK hK=>?_;refine Hq S 0 rfl 0 (v:=.int .i64 c) qv rfl rfl rfl qR λW S=>?_;refine gM hK ?_;refine uy ?_;replace S:=S.ld (k:=0) rfl (g:=jQ (aX,c)) (λi _=>nG _ _ _ i);obtain⟨RR,hRR⟩:=gq (ah 129 (jQ (aX,c)))
 rotate_left
 rw[hk] at H0;obtain⟨r,hr⟩:=cM (qH o.name o.n x);obtain rfl:r=T:=by rw[<-HT.o,<-hr];unfold sk;simp only[hk];rfl
 have C:=ae λW (X:cY W K D x)=>LP K D x hx o.name hname o.n W X;rw[hr] at C;obtain⟨y,bs,c⟩:=r;obtain⟨SB,HSB⟩:=BU (ah 128 (aw bs));simp only at C ⊢;clear hk hr;go_enter func139,ntmps139
 focus go_upto_region 10 with(first|(with_reducible refine jo 9 3 8 (H0.o _ S.fr) ?_)|((with_reducible refine dH 4 38 ?_);refine gD S OL jM rfl λW1 S=>?_)|refine ew λW S=>?_)
 refine bf S cm [] (by intro r hr;cases hr) λW S=>?_;refine bp 0 56 _ ?_;refine bp 1 57 _ ?_;refine bp 2 58 (bZ ob p) ?_;refine bp 3 59 (bZ ob (p+1)) ?_;refine gY 4 60 (.string o.name) rfl (bP (λw h=>H1.o _ h.fr) rfl pY) ?_;refine bp 5 61 _ ?_;refine bp 6 62 (bZ ob p) ?_;refine bp 7 63 (bZ ob (p+3)) ?_;refine gY 8 64 (.int .i64 o.n) rfl (bP (λw h=>H3.o _ h.fr) rfl kX) ?_;refine mO 9 λK hK=>?_
 focus go_wp2_with fail
 refine(C.o _ S.x.at).mono ?_;rintro e W ⟨B,rfl,hB,hp,hf⟩;obtain rfl:SB=B:=HSB.o.trans hB.symm;replace S:=S.tV hp hf fh rE (by intro o ho;cases ho);clear hB;refine gM hK ?_;refine bp 10 55 _ ?_;refine bp 11 66 (.agg SB) ?_;refine bp 12 67 (.int .i64 c) ?_;refine bp 13 68 (bZ W1.heap.size 1) ?_;refine mO 14 λK hK=>?_;refine aax S 0 rfl (o:=1) (m:=128) qv rfl rfl HSB.o qk (bV _) (f':=jQ (bs,0)) (λi hi=>XC bs 0 i hi) λW S=>?_;refine gM hK ?_;refine bp 15 69 (bZ W1.heap.size 0) ?_;refine mO 16 λK hK=>?_;refine Hq S 0 rfl 0 (v:=.int .i64 c) qv rfl rfl rfl qR λW S=>?_;refine gM hK ?_;refine uy ?_;replace S:=S.ld (k:=0) rfl (g:=jQ (bs,c)) (λi _=>nG _ _ _ i);obtain⟨RR,hRR⟩:=gq (ah 129 (jQ (bs,c)))
 rotate_left
 rw[hk] at H0;obtain⟨r,hr⟩:=cM (fq x (xy o.name));obtain rfl: (r.1,(aX,r.2))=T:=by rw[<-HT.o,<-hr];unfold sk;simp only[hk];rfl
 have C:=ae λW (X:cY W K D x)=>LU K D x hx o.name hname W X;rw[hr] at C;obtain⟨y,c⟩:=r;simp only at C ⊢;clear hk hr;go_enter func139,ntmps139;obtain⟨RR,hRR⟩:=gq (ah 129 (jQ (aX,c)))
 rotate_left
 rw[hk] at H0;obtain⟨r,hr⟩:=cM (fq x (sf o.name o.BE));obtain rfl: (r.1,(aX,r.2))=T:=by rw[<-HT.o,<-hr];unfold sk;simp only[hk];rfl
 have C:=ae λW (X:cY W K D x)=>I8 K D x hx o.name o.BE hname htoN W X;rw[hr] at C;obtain⟨y,c⟩:=r;simp only at C ⊢;clear hk hr;go_enter func139,ntmps139
 focus go_upto_region 14 with(first|(with_reducible refine jo 9 3 8 (H0.o _ S.fr) ?_)|((with_reducible refine dH 4 38 ?_);refine gD S OL jM rfl λW1 S=>?_)|refine ew λW S=>?_)
 refine bf S cm [] (by intro r hr;cases hr) λW S=>?_;refine bp 0 81 _ ?_;refine bp 1 82 _ ?_;refine bp 2 83 (bZ ob p) ?_;refine bp 3 84 (bZ ob (p+1)) ?_;refine gY 4 85 (.string o.name) rfl (bP (λw h=>H1.o _ h.fr) rfl pY) ?_;refine bp 5 86 _ ?_;refine bp 6 87 (bZ ob p) ?_;refine bp 7 88 (bZ ob (p+2)) ?_;refine gY 8 89 (.string o.BE) rfl (bP (λw h=>H2.o _ h.fr) rfl pY) ?_;refine mO 9 λK hK=>?_
 focus go_wp2_with fail
 refine(C.o _ S.x.at).mono ?_;rintro e W ⟨rfl,hp,hf⟩;replace S:=S.tV hp hf fh rE (by intro o ho;cases ho);refine gM hK ?_;refine bp 10 91 (bZ W1.heap.size 0) ?_;refine mO 11 λK hK=>?_;refine Hq S 0 rfl 0 (v:=.int .i64 c) qv rfl rfl rfl qR λW S=>?_;refine gM hK ?_;refine uy ?_;replace S:=S.ld (k:=0) rfl (g:=jQ (aX,c)) (λi _=>nG _ _ _ i);obtain⟨RR,hRR⟩:=gq (ah 129 (jQ (aX,c)))
 rotate_left
 rw[hk] at H0;obtain⟨r,hr⟩:=cM (fq x (mq o.name));obtain rfl: (r.1,(aX,r.2))=T:=by rw[<-HT.o,<-hr];unfold sk;simp only[hk];rfl
 have C:=ae λW (X:cY W K D x)=>Ei K D x hx o.name hname W X;rw[hr] at C;obtain⟨y,c⟩:=r;simp only at C ⊢;clear hk hr;go_enter func139,ntmps139;obtain⟨RR,hRR⟩:=gq (ah 129 (jQ (aX,c)))
 rotate_left
 rw[hk] at H0;obtain⟨r,hr⟩:=cM (fq x (zi o.name));obtain rfl: (r.1,(aX,r.2))=T:=by rw[<-HT.o,<-hr];unfold sk;simp only[hk];rfl
 have C:=ae λW (X:cY W K D x)=>LV K D x hx o.name hname W X;rw[hr] at C;obtain⟨y,c⟩:=r;simp only at C ⊢;clear hk hr;go_enter func139,ntmps139;obtain⟨RR,hRR⟩:=gq (ah 129 (jQ (aX,c)))
 rotate_left
 rw[hk] at H0;obtain⟨r,hr⟩:=cM (fq x (mr o.name));obtain rfl: (r.1,(aX,r.2))=T:=by rw[<-HT.o,<-hr];unfold sk;simp only[hk];rfl
 have C:=ae λW (X:cY W K D x)=>Ej K D x hx o.name hname W X;rw[hr] at C;obtain⟨y,c⟩:=r;simp only at C ⊢;clear hk hr;go_enter func139,ntmps139;obtain⟨RR,hRR⟩:=gq (ah 129 (jQ (aX,c)))
 rotate_left
 rw[hk] at H0;obtain⟨r,hr⟩:=cM (fq x pL);obtain rfl: (r.1,(aX,r.2))=T:=by rw[<-HT.o,<-hr];unfold sk;simp only[hk];rfl
 have C:=ae λW (X:cY W K D x)=>LY K D x hx W X;rw[hr] at C;obtain⟨y,c⟩:=r;simp only at C ⊢;clear hk hr;go_enter func139,ntmps139;obtain⟨RR,hRR⟩:=gq (ah 129 (jQ (aX,c)))
 all_goals
  have HR:=ae hRR;clear hRR
  go_wp2_with (first|(with_reducible first|refine jo 9 3 8 (H0.o _ S.fr) ?_|refine jo 76 9 75 (H1.o _ S.fr) ?_|refine jo 98 9 97 (H1.o _ S.fr) ?_|refine jo 107 9 106 (H1.o _ S.fr) ?_|refine jo 116 9 115 (H1.o _ S.fr) ?_)|((with_reducible refine dH 4 38 ?_);refine gD S OL jM rfl λW1 S=>?_)|(go_at_call 14;refine(C.o _ S.x.at).mono ?_;rintro e W ⟨rfl,hp,hf⟩;replace S:=S.tV hp hf fh rE (by intro o ho;cases ho))|((with_reducible refine aS 27 78 77 ?_);refine gu S 0 rfl 0 (v:=.int .i64 c) (jQ (aX,c)) (λj _=>nG _ _ _ j) qv rfl rfl rfl qR λW S=>?_)|(go_at_call 41;refine(C.o _ S.x.at).mono ?_;rintro e W ⟨rfl,hp,hf⟩;replace S:=S.tV hp hf fh rE (by intro o ho;cases ho))|((with_reducible refine aS 27 100 99 ?_);refine gu S 0 rfl 0 (v:=.int .i64 c) (jQ (aX,c)) (λj _=>nG _ _ _ j) qv rfl rfl rfl qR λW S=>?_)|(go_at_call 42;refine(C.o _ S.x.at).mono ?_;rintro e W ⟨rfl,hp,hf⟩;replace S:=S.tV hp hf fh rE (by intro o ho;cases ho))|((with_reducible refine aS 27 109 108 ?_);refine gu S 0 rfl 0 (v:=.int .i64 c) (jQ (aX,c)) (λj _=>nG _ _ _ j) qv rfl rfl rfl qR λW S=>?_)|(go_at_call 19;refine(C.o _ S.x.at).mono ?_;rintro e W ⟨rfl,hp,hf⟩;replace S:=S.tV hp hf fh rE (by intro o ho;cases ho))|((with_reducible refine aS 27 118 117 ?_);refine gu S 0 rfl 0 (v:=.int .i64 c) (jQ (aX,c)) (λj _=>nG _ _ _ j) qv rfl rfl rfl qR λW S=>?_)|(go_at_call 15;refine(C.o _ S.x.at).mono ?_;rintro e W ⟨rfl,hp,hf⟩;replace S:=S.tV hp hf fh rE (by intro o ho;cases ho))|((with_reducible refine aS 27 123 122 ?_);refine gu S 0 rfl 0 (v:=.int .i64 c) (jQ (aX,c)) (λj _=>nG _ _ _ j) qv rfl rfl rfl qR λW S=>?_)|refine fN ?_|refine ew λW S=>?_|(refine o7 ?_;exact⟨_,rfl,rfl,S.x.at,S.fr⟩))
end Go.Proofs.YtklligbjoplbgaaGreat
