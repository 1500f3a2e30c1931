/- Part 6 of the proof of WholeAudit. No conditions. -/
import Derived.Test.YtklligbjoplbgaaGreatRae
set_option linter.all false
open List renaming length->List.n
open String renaming length->String.n
open Array renaming size->Array.s,toList->Array.t
open ByteArray renaming size->ByteArray.s
open Go.TypeInfo renaming size->Go.TypeInfo.s
open Go.RowKit.Below renaming size->Go.RowKit.Below.s
open Option renaming toList->Option.t,some->cu,none->cw
open Go.World renaming heap->Go.World.h
open Int renaming toNat->Int.m
open Go.Value renaming int->bU,agg->bV,pointer->bW,slice->bX,string->bY,bool->bZ,tuple->cg
open Go.Ending renaming returned->cj
open Go.IntKind renaming i64->cq,u64->ct
open Bool renaming true->cx,false->cy
namespace Go.Proofs.YtklligbjoplbgaaGreat
set_option maxRecDepth 100000
set_option maxHeartbeats 64000000
open Go.RowKit Lib List Nat _root_.Go.Proofs.Tryz Go.Shelf
variable {listed:Array Bool}{ops:Array Oper}{b:ej}{c:dY}{cT iK:fM}{e:Dv}{Q:Exit->Act->cS->Prop}{g2 g3:iV}{B ee ats bs text:cV}{X X':cV->cS->Prop}{ms:List (List cQ)}{ts:List cV}{O:List O4}{h iW ps:List cQ}{L:List R4}{l ss:List du}{G G2 K M2 N a base fuel i k o top:Nat}{D E:Nat->cV}{A:Nat->Prop}{d:Option Nat}{P:oN}{s s2 u:Pl}{r:Pl×(cQ×Int)}{p q q2 cO:cQ}{f g:cQ->Nat->cQ}{j j' sn t v v' y:du}{M:du->Prop}{w w' w0 w1 w2:cS}{SS:cS->Prop}
def lI(f:Nat->cV):Prop:=∀i,kb (f i)
theorem abU(d:Dv):(fm d).nw=d.nw:=by grind[fm]
theorem Qq(d:Dv)(i:Int):(iq d i).1.nw=d.nw:=abU d
theorem Nt{d:Dv}(h:lI d.nw)(i:Int):kb (iq d i).2.1:=by unfold iq;simp only;split;split;exact xj;exact h _;exact xj
theorem Vp(s:Pl)(q:cQ):(gz s q).1.dv.nw=s.dv.nw:=by grind[gz,Qq]
theorem Qr(h:lI s.dv.nw)(q:cQ):kb (gz s q).2.1:=by grind[gz,xj,Nt]
theorem uB(s:Pl)(q:cQ):(dw s q).1.dv.nw=s.dv.nw:=by grind[dw,Vp]
theorem Iv{α β:Type}{f:Pl×β->α->Pl×β}(h:∀a x,(f a x).1.dv.nw=a.1.dv.nw):∀(l:List α)(a:Pl×β),(l.foldl f a).1.dv.nw=a.1.dv.nw
 | [],_=>rfl
 |x::l,a=>by rw[zC,Iv h l (f a x),h]
theorem SC(a:Nat)(x:Pl×(List cQ×Int))(q:cQ):(fX a x q).1.dv.nw=x.1.dv.nw:=by grind[fX,uB]
theorem Kw(x:Pl×(List cQ×List cQ×Int))(a:Nat):(ji x a).1.dv.nw=x.1.dv.nw:=by grind[ji,fY,Iv,SC]
theorem Kx(x:Pl×(cV×Int))(q:cQ):(jW x q).1.dv.nw=x.1.dv.nw:=by grind[jW,Vp]
theorem Vq(s:Pl)(l:List cQ)(n:Nat):(fc s l n).1.dv.nw=s.dv.nw:=by grind[pG,Iv,Kx,fc]
theorem Ky(s:Pl)(cO:cQ)(n:Int):(eP s cO n).1.dv.nw=s.dv.nw:=by grind[eP,Iv,Kw,Vq]
theorem Kz:∀(l:List cQ)(x:Pl×(cV×Int)),lI x.1.dv.nw->(∀c∈x.2.1,c<256)->∀c∈(l.foldl jW x).2.1,c<256
 | [],_,_,h=>h
 |q::l,x,hn,h=>by
  rw[zC];refine Kz l (jW x q) (by grind[Kx]) ?_;unfold jW;split
  . exact h
  split
  . grind
  . intro c hc;rcases gH.1 hc with hc|hc
    . grind
    . exact(Qr hn q).2 c hc
theorem Vr(s:Pl)(a:lI s.dv.nw)(l:List cQ)(n:Nat):∀c∈(fc s l n).2.1,c<256:=by have h:=Kz l (s,([],0)) a (λc hc=>absurd hc jL);unfold fc;grind[pG]
theorem Vs(s:Pl)(b:lI s.dv.nw)(cO:cQ)(n:Int):∀c∈(eP s cO n).2.1,c<256:=by unfold eP;have a:((qT n).foldl ji (s,([cO],[cO],0))).1.dv.nw=s.dv.nw:=Iv Kw _ _;grind[Vr]
theorem Nu(s:Pl)(a:cV):(j9 s a).1.dv.nw=s.dv.nw:=by grind[j9,Ky]
theorem Yn(s:Pl)(b:lI s.dv.nw)(a:cV):∀c∈(j9 s a).2.1,c<256:=by unfold j9;split;grind;exact Vs _ b _ _
theorem KA(s:Pl)(a:cV):(j9 s a).1.dv.ops<=s.dv.ops+6200:=by unfold j9;split;grind;grind[x8]
theorem aeH(n:Nat)(top:List cQ)(h g:Pl×(cV×List cQ×Int))(b:∀c∈h.2.1,c<256):fi (ml3 n top h g).1:=by have a:fi tJ:=⟨by decide,⟨by simp[tJ],λt h=>absurd h jL⟩,λs h=>absurd h jL⟩;grind[ml3,aeC]
theorem aeI(n:Nat)(top:List cQ)(h g:Pl×(cV×List cQ×Int)):(ml3 n top h g).2.2.1.n<=top.n+h.2.2.1.n+g.2.2.1.n:=by unfold ml3;grind
def Cl:fi tJ:=⟨by decide,⟨by simp[tJ],λt h=>absurd h jL⟩,λs h=>absurd h jL⟩
theorem vi(s:Pl)(m:lI s.dv.nw)(t:cQ):fi (jX s t).2.1/\(jX s t).2.2.2.1.n<=20000/\(jX s t).1.dv.ops<=s.dv.ops+20000/\(jX s t).1.dv.nw=s.dv.nw:=by unfold jX;have j:=x8 s t 40;have b:=Ky s t 40;have f:=sK s t 40;split;exact⟨Cl,gG _,by grind,b⟩;generalize eP s t 40=a at j b f|-;unfold ml1;have k:=KA a.1 (a.2.1.take 20);have c:=Nu a.1 (a.2.1.take 20);have l2:=zZ a.1 (a.2.1.take 20);have e:=Yn a.1 jH (a.2.1.take 20);simp only;generalize j9 a.1 (a.2.1.take 20)=h at k c l2 e|-;split;exact⟨Cl,gG _,by grind,c.trans b⟩;unfold ml2;have l:=KA h.1 (a.2.1.drop 20);have d:=Nu h.1 (a.2.1.drop 20);have i:=zZ h.1 (a.2.1.drop 20);simp only;generalize j9 h.1 (a.2.1.drop 20)=g at l d i|-;split;exact⟨Cl,gG _,by grind,(d.trans c).trans b⟩;grind[aeI,aeH]
theorem Nv{s:cV}(h:kb s){u:qZ}(e:kf s=cu u):oP u:=by unfold kf at e;split at e;cases e;next q hq=>split at e;cases e;exact He h.2 (xo (λx a=>h.2 x (mR (lP a))) hq);cases e
theorem Nw(x:Dv×List qZ)(i:Nat)(h:lI x.1.nw)(a:∀u∈x.2,oP u):(rT x i).1.nw=x.1.nw/\(rT x i).1.ops<=x.1.ops+1/\∀u∈(rT x i).2,oP u:=by grind[Qq,Yl,Nt,rT,Nv]
def Iw(d:Dv)(h:lI d.nw):∀k,(ki d k).1.nw=d.nw/\(ki d k).1.ops<=d.ops+k/\∀u∈(ki d k).2,oP u
 |0=>⟨ae,eN _,λu e=>absurd e jL⟩
 |k+1=>by
  obtain⟨a,f,c⟩:=Iw d h k;rw[DE];obtain⟨b,g2,g3⟩:=Nw (ki d k) k (by rw[a];exact h) c;exact⟨b.trans a,cN,g3⟩
def Vt:oP lR:=⟨by decide,by decide,⟨by decide,by decide,by decide⟩,by decide,by decide⟩
theorem r7(d:Dv)(h:lI d.nw):(eZ d).1.nw=d.nw/\(eZ d).1.ops<=d.ops+4/\oP ((eZ d).2.getD lR):=by obtain⟨a,b,c⟩:=Iw d h 4;refine⟨a,b,?_⟩;cases e:(eZ d).2 with|none=>exact Vt|some u=>have f:u∈oY (ki d 4).2:=mem_of_getLast? e;grind[sF]
def vj(s:du):Prop:=s.df.n<=1000000/\s.name.s<=1000/\tf s
def fi.of(d:b.next<18446744073709551616)(e:b.cU.n<=1000000)(a:∀s∈b.cU,vj s):fi b:=
 ⟨d,⟨e,λt c=>⟨(a t c).1,(a t c).2.1⟩⟩,λs f=>(a s f).2.2⟩
theorem fi.ok(h:fi b):∀s∈b.cU,vj s:=λs a=>⟨(h.fit.2 s a).1,(h.fit.2 s a).2,h.parts s a⟩
theorem o7:vj oI:=⟨gG _,gG _,dV,λq h=>absurd h jL⟩
theorem wN{l:List du}(h:∀s∈l,vj s)(k:Nat):vj (dH l k):=by grind[dH,o7]
theorem Vu(h:∀s∈l,vj s)(k:Option Nat):vj (P' l k):=by cases k<;>grind[o7,wN,P']
theorem Ix(h:∀s∈l,vj s){x:du}(a:vj x)(i:Nat):∀s∈l.set i x,vj s:=by grind
theorem Qs(h:∀s∈l,vj s)(i:Nat):∀s∈l.eraseIdx i,vj s:=by grind[mem_of_mem_eraseIdx]
theorem Nx{cT iK:fM}(h:vE cT=cu iK):iK.s<=24:=by grind[vE,mH,xF]
theorem Ny{cT iK dz:fM}(h:eW cT=cu (iK,dz)):dz.s<=24:=by unfold eW at h;split at h;cases h;next hn=>simp only[yq,LA] at h;rw[<-h.2];cases b:ff (zx cT).2.1 with|true=>exact mH b|false=>(have a:(zx cT).2.2=cy:=by grind);unfold zx at a|-;split at a;cases a;next hc=>rw[cX hc];exact gG _
theorem Vv{dz:fM}(h:pF cT=cu (iK,dz)):iK.s<=24/\dz.s<=24:=by grind[pF,mH,xF,Ny]
def Vw(n:Nat):iR n<18446744073709551616:=Ds n
theorem KB(h:fi b)(c:b.cU.n<32){s:du}(d:vj s):fi (u' b s):=
 fi.of (Vw _) (by grind[u']) λt a=>by
  rcases gH.1 a with a|a
  . exact h.ok t a
  grind
theorem CI(h:fi b)(cT:fM)(n:Int):fi (iO b cT n).1:=by unfold iO;split;exact h;next iK hv=>split;exact h;split;exact h;next h32=>split;exact h;refine KB h cN ⟨gG _,?_,dV,λq h=>absurd h jL⟩;grind[Nx]
theorem D0(h:fi b)(f t:fM):fi (jA b f t).1:=by unfold jA;split;exact h;split;exact h;next iK hv=>split;exact h;next i _=>split;exact h;next h32=>split;exact h;have a:=wN h.ok i;refine KB h cN ⟨gG _,?_,a.2.2.1,λq h=>absurd h jL⟩;grind[Nx]
theorem Fz(h:fi b)(f:fM)(st:Nat):fi (iH b f st).1:=by unfold iH;split;exact h;next iK dz hv=>split;exact h;next i _=>split;exact h;next h32=>split;exact h;split;exact h;have c:=wN h.ok i;have d:=(Vv hv).2;refine fi.of (Vw _) jH (Ix (x:={dH b.cU i with dB:=b.next,df:=[]}) (λt a=>?_) ⟨gG _,c.2.1,c.2.2.1,λq h=>absurd h jL⟩ i);rcases gH.1 a with a|a;exact h.ok t a;rw[fS.1 a];exact⟨c.1,by grind,c.2.2⟩
theorem Qt(l:List du)(id:Nat):∀(ms:cV)(s r:List du),(∀t∈s,vj t)->zi l id ms s=cu r->(∀t∈r,vj t)/\r.n=s.n
 | [],s,r,h,e=>by cases e<;>grind
 |m::ms,s,r,h,e=>by
  rw[Kl] at e;split at e
  . cases e
  . next j _=>
    split at e
    . cases e
    . have a:=wN h j;have:=Qt l id ms _ r (Ix h (x:={dH s j with cZ:=id}) ⟨a.1,a.2.1,a.2.2⟩ j) e;rw[xM] at this;exact this
def Bg(h:fi b)(f:fM):fi (fT b f).1:=by unfold fT;split;exact h;split;exact h;split;exact h;next s hs=>obtain⟨a,c⟩:=Qt _ _ _ _ _ h.ok hs;exact fi.of h.next (by rw[c];exact h.fit.1) a
theorem FA(h:fi b)(f:fM):fi (jI b f).1/\vj (jI b f).2.1:=by unfold jI;split;grind[o7];next i _ _=>split;grind[o7];next j _=>have a:=wN h.ok i;have c:=wN h.ok j;exact⟨fi.of h.next amR (Ix (x:={dH b.cU i with cO:=(dH b.cU j).cO,df:=[]}) h.ok ⟨gG _,a.2.1,c.2.2.1,λq h=>absurd h jL⟩ i),a⟩
theorem Bh(h:fi b)(f:fM):fi (fx b f).1/\vj (fx b f).2.1:=by unfold fx;split;grind[o7];next i _ _=>split;grind[o7];exact⟨fi.of h.next (ik (I5 _ _) h.fit.1) (Qs h.ok i),wN h.ok i⟩
theorem Gx:∀(a b r:List cQ),jR a b=cu r->∀q∈r,q∈a∨q∈b
 | [],b,r,e=>by grind[jR]
 |p::a,[],r,e=>by grind[jR]
 |p::a,q::b,r,e=>by
  rw[jR] at e;split at e
  . obtain⟨r',d,rfl⟩:=Ad.1 e;intro x c;rcases iX.1 c with rfl|c
    . grind
    . exact(Gx a (q::b) r' d x c).imp (kT _) id
  split at e
  . obtain⟨r',d,rfl⟩:=Ad.1 e;intro x c;rcases iX.1 c with rfl|c
    . grind
    . exact(Gx (p::a) b r' d x c).imp id (kT _)
  . cases e
termination_by a b=>a.n+b.n
theorem z6(h:fi b)(f:fM):fi (eu b f).1/\fQ (eu b f).2.1/\(eu b f).2.1.n<=1000000:=by unfold eu;split;simp_all[dU];split;simp_all[dU];next i _=>split;simp_all[dU];split;simp_all[dU];next j _=>split;simp_all[dU];next all hm=>split;simp_all[dU];next h4=>have d:=wN h.ok i;have a:=wN h.ok j;refine⟨fi.of h.next (ik (I5 _ _) amR) (Qs (Ix (x:={dH b.cU j with df:=all,dB:=(dH b.cU i).dB}) h.ok ⟨?_,a.2.1,a.2.2.1,λq c=>?_⟩ j) i),λq c=>?_,?_⟩;grind;rcases Gx _ _ _ hm q c with h1|h1;unfold oZ at h1;exact a.2.2.2 q (Ax.1 h1).1;exact d.2.2.2 q h1;unfold jQ at c;exact a.2.2.2 q (Ax.1 c).1;unfold jQ;exact ik (FR _ _) a.1
theorem JB(a:Nat):∀(l:List cQ)(s r:List cQ×List cQ),fQ l->fQ s.1->s.1.n<=1000000->fQ s.2->wm a l s=cu r->(fQ r.1/\r.1.n<=1000000)/\fQ r.2/\r.2.n<=s.2.n+l.n
 | [],s,r,_,h1,h2,h3,e=>by cases e<;>grind
 |q::l,s,r,hl,h1,h2,h3,e=>by
  rw[DM] at e;have f:=hl q nB;have c:fQ l:=λx b=>hl x (kT _ b);split at e
  . have:=JB a l (s.1,s.2++[q]) r c h1 h2 (λx b=>by
     rcases gH.1 b with b|b
     . exact h3 x b
     grind) e
    grind
  . split at e
    . cases e
    . next m hm=>
      split at e
      . cases e
      . next h4=>
        have d:fQ m:=by
         unfold rB at hm;split at hm
         . cases hm
         split at hm
         . cases hm
         . cases hm;intro x b;rcases gH.1 b with b|b
           . exact h1 x (lP b)
           . rcases iX.1 b with rfl|b
             . exact f
             . exact h1 x (mR b)
        have:=JB a l (m,s.2) r c d jH h3 e
        grind
theorem FB(h:fi b)(id:Nat)(l:List cQ)(f:fQ l):fi (jV b id l).1/\fQ (jV b id l).2.1/\(jV b id l).2.1.n<=l.n:=by unfold jV;split;simp_all[dU];next i _=>split;simp_all[dU];next d g hk=>have a:=wN h.ok i;obtain⟨c,e,j⟩:=JB _ _ ((dH b.cU i).df,[]) _ f a.2.2.2 a.1 dU hk;refine⟨fi.of h.next amR (Ix (x:={dH b.cU i with df:=d}) h.ok ⟨c.2,a.2.1,a.2.2.1,c.1⟩ i),e,?_⟩;grind
def KC(h:lI s.dv.nw)(q:cQ):∀i,i<8->dD ((dw s q).2.1 i):=by have a:=Qr h q;unfold dw;split;intro i _;exact dV;split;intro i _;exact dV;next l e=>exact λi _=>zS a e i
theorem KD{l:Nat->cQ}(h:∀i,i<8->dD (l i)):fQ (mq l):=by intro q a;unfold mq at a;grind
theorem FD(cR:Nat):∀(l:List cQ)(x:Pl×(List cQ×Int)),lI x.1.dv.nw->fQ l->fQ x.2.1->fQ (l.foldl (jU cR) x).2.1/\(l.foldl (jU cR) x).2.1.n<=x.2.1.n+9*l.n/\(l.foldl (jU cR) x).1.dv.nw=x.1.dv.nw
 | [],x,_,_,h=>⟨h,eN _,ae⟩
 |q::l,x,hn,hl,h=>by
  rw[zC];have c:=hl q nB;have b:fQ (jU cR x q).2.1/\(jU cR x q).2.1.n<=x.2.1.n+9/\(jU cR x q).1.dv.nw=x.1.dv.nw:=by
   unfold jU;split
   . grind
   split
   . grind
   split
   . simp_all[dU,uB]
   . refine⟨λy a=>?_,?_,uB _ _⟩
     . rcases gH.1 a with a|a
       . exact h y a
       . rcases iX.1 a with rfl|a
         . exact c
         . exact KD (KC hn q) y (Ax.1 a).1
     grind[qe]
  have:=FD cR l (jU cR x q) jH (λy a=>hl y (kT _ a)) b.1
  grind
theorem FE(h:lI s.dv.nw)(a:dD q)(st:Nat):fQ (fR s q st).2.1/\(fR s q st).2.1.n<=73/\(fR s q st).1.dv.nw=s.dv.nw:=by unfold fR;split;exact⟨dU,gG _,ae⟩;split;simp_all[dU,uB];have:=FD st (mq (dw s q).2.1) ((dw s q).1,([q],0)) (by grind[uB]) (KD (KC h q)) (λy b=>by grind);grind[qe,uB,uj]
theorem CK{y:Way}{q:cQ}(a:∀k,dD (y.first k))(b:dD y.block)(c:dD q)(i:Nat):fQ (lJ y q i)/\(lJ y q i).n<=3:=by unfold lJ;refine⟨λx d=>?_,FR _ _⟩;grind
theorem FF(a:qE s.dv)(e:gU s.cR)(c:dD q)(i:Int)(b:cV):dD (lh s q i b).2.1/\fQ (lh s q i b).2.2.1/\(lh s q i b).2.2.1.n<=3:=by have d:dD q/\fQ ([]:List cQ)/\([]:List cQ).n<=3:=⟨c,dU,gG _⟩;obtain⟨w1,w2,f⟩:=rQ a q i.m;unfold lh;simp only;split<;>grind[CK,oh,oj,Dw,uU]
theorem SD{s:Pl}(e:gU s.cR){y:Way}(c:∀k,dD (y.first k))(d:dD y.block){q:cQ}(a:dD q)(i:Nat):dD (om s y q i).2.1/\fQ (om s y q i).2.2.1/\(om s y q i).2.2.1.n<=3:=by have b:dD q/\fQ ([]:List cQ)/\([]:List cQ).n<=3:=⟨a,dU,gG _⟩;grind[CK,om,oj,oh,dV]
theorem D1(c:qE s.dv)(d:gU s.cR)(a:dD q)(i:Int):dD (iF s q i).2.1/\fQ (iF s q i).2.2.1/\(iF s q i).2.2.1.n<=3:=by have b:dD q/\fQ ([]:List cQ)/\([]:List cQ).n<=3:=⟨a,dU,gG _⟩;grind[rQ,iF,SD,uU]
def rG(x:GT)(b:ej):GT:={x with b:=b}
def Bj(x:GT):Int:=if Bc (nq x.b x.s.dv.n) (fI x.s.mp) x.dI.n=cx then 0 else 71
def pI(x:GT)(r:ej×Int):GT×Int:=if r.2≠0 then(x,r.2) else(rG x r.1,Bj (rG x r.1))
def my(cT:fM)(n:Int)(x:GT):GT×Int:=if 281474976710651<x.b.next then(x,192) else pI x (iO x.b cT n)
def qL(f t:fM)(x:GT):GT×Int:=if 281474976710651<x.b.next then(x,192) else pI x (jA x.b f t)
def vl(cT:fM)(x:GT):GT×Int:=
 if 281474976710651<x.b.next∨281474976710651<x.s.cR then(x,192) else
 if(iH x.b cT x.s.cR).2≠0 then(x,(iH x.b cT x.s.cR).2) else
 ({rG x (iH x.b cT x.s.cR).1 with s:=tW x.s},Bj {rG x (iH x.b cT x.s.cR).1 with s:=tW x.s})
def lY(cT:fM)(x:GT):GT×Int:=if(fT x.b cT).2≠0 then(x,(fT x.b cT).2) else(rG x (fT x.b cT).1,0)
def vm(b:ej)(x:GT)(r:Pl×(List cQ×Int)):GT×Int:=
 if r.2.2≠0 then({x with s:=r.1},vF r.2.2) else({x with b:=b,s:=dM r.1 r.2.1},0)
def oM(b:ej)(iW:du)(x:GT):GT×Int:=vm b x (fR x.s iW.cO (gr x.b.cU iW.id))
def oB(x:GT)(r:ej×(du×Int)):GT×Int:=if r.2.2≠0 then(x,r.2.2) else oM r.1 r.2.1 x
def uC(cT:fM)(x:GT):GT×Int:=oB x (jI x.b cT)
def ud(x:GT)(r:ej×(List cQ×Int)):GT×Int:=
 if r.2.2=131 then(x,91) else if r.2.2≠0 then(x,r.2.2) else({x with b:=r.1,s:=dM x.s r.2.1},0)
def lf(cT:fM)(x:GT):GT×Int:=
 (eW cT).elim (x,141) λp=>if p.2=tp then oB x (fx x.b cT) else ud x (eu x.b cT)
def gV(b:ej)(id:Nat)(cO:cQ):ej:=⟨b.next,b.cU.map λs=>if s.id=id then {s with cO:=cO} else s⟩
def zn(x:GT)(r:ej×(List cQ×Int)):GT×Int:=
 if r.2.2≠0 then(x,vF r.2.2) else({x with b:=r.1,s:=dM x.s r.2.1},Bj {x with b:=r.1,s:=dM x.s r.2.1})
def r8(id:Nat)(cO:cQ)(iW:List cQ)(x:GT):GT×Int:=zn x (jV (gV x.b id cO) id iW)
def sS(id:Nat)(x:GT)(t:Pl×(cQ×(List cQ×Int))):GT×Int:=
 if t.2.2.2≠0 then({x with s:=t.1},vF t.2.2.2) else r8 id t.2.1 t.2.2.1 {x with s:=t.1}
def mM(cT:fM)(i:Int)(bs:cV)(x:GT):GT×Int:=
 if(qJ x.b cT i).2≠0 then(x,(qJ x.b cT i).2) else if 128<bs.n then(x,92) else
 sS (qJ x.b cT i).1.id x (lh x.s (qJ x.b cT i).1.cO i bs)
def rH(cT:fM)(i:Int)(x:GT):GT×Int:=
 if(qJ x.b cT i).2≠0 then(x,(qJ x.b cT i).2) else sS (qJ x.b cT i).1.id x (iF x.s (qJ x.b cT i).1.cO i)
def asked(x:GT)(d:Dv):GT:={x with s:={x.s with dv:=d}}
def r9(x:GT)(r:GT×Int):GT×Int:=if r.2≠0 then(asked x r.1.s.dv,r.2) else(r.1,0)
def dX(x:GT)(k:GT->GT×Int):GT×Int:=if x.s.dv.df=cx then(x,42) else r9 x (k x)
structure Gy(x:GT):Prop where
 text:fi x.b
 qD:x.dI.n<=100000
 ops:x.s.dv.ops<=990000000
def fJ(w:cS)(K D:Nat)(x:GT):Prop:=∃G g M,tY w K G g D M x.s/\g.gt x.s=x/\fQ x.dI
def lN.and{Y:cV->cS->Prop}(h:lN d X)(g:lN d Y):lN d (λB w=>X B w/\Y B w):=
 ⟨λa b=>⟨h.cP a.1 b,g.cP a.2 b⟩,λa b=>⟨h.add a.1 b,g.add a.2 b⟩,λa b=>⟨h.mono a.1 b,g.mono a.2 b⟩,λa b c t u v=>⟨h.but a.1 b c t u v,g.but a.2 b c t u v⟩,λa e=>h.dev a.1 e⟩
def dZ.xB{D M:Nat}{g:iV}(h:dZ w G g D M s)(e:∀b∈B,iy w b≠cu 109/\iy w b≠cu 106):qK G g D M s B w:=
 ⟨⟨⟨h.kB,h.row⟩,⟨⟨h.wZ.1,λd b a c=>(e b c).1 (dg.ty h.wZ.1 a d)⟩,λx f=>⟨h.wZ.2 x f,λd b a c=>(e b c).2 (dg.ty (h.wZ.2 x f) a d)⟩⟩⟩,⟨h.dI,λd b a c=>(e b c).2 (dg.ty anF a d)⟩⟩
def zp(K G:Nat)(g:iV)(D M:Nat)(s:Pl):cV->cS->Prop:=λB w=>qK G g D M s B w/\cL w K 101 1 (λ_=>bW (cu ⟨G,0,cw⟩))
def kg(K G:Nat)(g:iV)(D M:Nat)(s:Pl):lN (cu D) (zp K G g D M s):=(iB G g D M s).obj (t:=101) (n:=1) (b:=K) (f:=λ_=>dF G 0) ae
theorem zp.at{D M:Nat}{g:iV}(h:zp K G g D M s B w):tY w K G g D M s:=⟨h.2,h.1.at⟩
theorem tY.x{D M:Nat}{g:iV}(h:tY w K G g D M s):zp K G g D M s [] w:=⟨h.Hz.x,h.row⟩
def dZ.beside{D M:Nat}{g:iV}{a:Pl}(h:dZ w G g D M s)(b:dZ w' G2 g2 D M2 a){l:cV}(f:Fr (cu D) l w w')(c:G∉l)(d:M∉l)(e:g.P∉l):dZ w' G g D M {s with dv:=a.dv}:=
 ⟨cL.fr h.row f ax (.inr c),⟨cL.fr h.kB.row f ax (.inr e),b.kB.dev,h.kB.map.fr f d,h.kB.ok⟩,
  ⟨dg.fr h.wZ.1 f ax ae,λx i=>dg.fr (h.wZ.2 x i) f ax ae⟩,dg.fr anF f ax ae⟩
def St.Vx{l:cV}(S:St w0 d l L O X w)(a:lN d X')(b:X' (eM L O) w):St w0 d l L O X' w:=
 ⟨S.fr,S.row,S.own,S.lo,S.nd,b,a⟩
def akf:ky prog 118 1:=⟨⟨_,underlying118,ae⟩,dC⟩
instance in7b579 :s7 118 1:=⟨akf⟩
def ZI:(#[bW cw]:gJ)=cM 1 (λ_=>bW cw):=rfl
instance in7c1c8 :ZR 118 1 (λ_=>bW cw):=⟨_,zeroValue118,ZI⟩
section
attribute[local irreducible]wpList Code.wp Calls Oper.wp wpAnyH
def Cm(G D M:Nat)(g:iV)(s:Pl)(l:List cQ)(y:fQ l)(z:l.n<=1000000)(v:c7)(p:gJ)(d:p=cM 1 (λ_=>bW (cu ⟨G,0,cw⟩)))(w:cS)(h:dZ w G g D M s)(R:ly w v l):
 CP_ 67 #[bV p,v] w λe w'=>e=cj (cg #[])/\dZ w' G g D M (dM s l)/\Fr (cu D) [M] w w':=by
 obtain⟨L,cap,rfl,u,b⟩:=dQ R;have H:=cz R;have b:=cz b;have E:=cz d;have F:=cz y;have S:=St.start w (cu D) [M] (iB G g D M s) h.x;have m:=cz (qK.Pa h.x);clear h R d y;go_enter func67,ntmps67;go_upto_region 2 with(refine fu λW S=>?_);go_loopw [8] (λi wr=>∃k:Nat,k<=l.n/\i=bU cq k/\Hid (St w (cu D) [M] [⟨w.h.s,118,1,λ_=>dF G 0⟩] [] (qK G g D M (dM s (l.take k))) wr)) (λi _=>l.n-(intOf i).m);exact⟨0,cN,ae,cz S⟩;clear S;obtain⟨k,x,rfl,hS⟩:=hrel;by_cases a:k<l.n
 . (obtain⟨N,O,rfl⟩:=b.o cN;obtain⟨q,o⟩:=dG (l[k]);obtain⟨A,j⟩:=fU (cM 3 (dE q));have f:=cz (kG l a (A:=A) (by rw[o];exact j));have c:l[k]?=cu q:=by rw[jG a,o]);have B:=cz λW h=>mL G D M g (dM s (l.take k)) W h;have r:=cz λW h=>Ia g.P D M (dM s (l.take k)) q (F.o q (lu c)) W h;rw[dk j,<-Kt c] at r;have C:=cz j;have S:=hS.o;clear hS j o c;have t:=cz a;go_upto_region 4 with(first|((with_reducible refine aQ_ ?_);refine CB (H.o.fr S.fr ax ae) a (vx C) f.o ?_)|refine fu λW S=>?_);refine eO S dC λW S=>?_;refine dh 0 (dF w.h.s 0) ?_;refine dh 1 (dF G 0) ?_;refine dh 3 (bV A) ?_;refine kK 2 λK n=>?_;go_wp2_with fail;refine mG (B.o _ S.x.at) ?_;refine gy n ?_;refine kK 4 λK n=>?_;go_wp2_with fail;refine aj (r.o _ S.x.at.kB) λW⟨J,I⟩=>?_;replace S:=S.ahV I (λD e=>by cases e) (λk x=>.inl x) (by rw[fS];exact m.o.2.1) J;refine gy n ?_;refine qG ?_;go_wp2;go_roundw;have:=t.o;exact⟨k+1,cN,by go_num,cz S.pop⟩;have:=t.o;simp[intOf];omega
 . obtain rfl:k=l.n:=cN;have S:=hS.o;rw[qp] at S;go_wp2;refine FW (vQ ae _ _ _) ae ?_;exact⟨ae,S.x.at,S.fr⟩
end
section
variable {l:cV}
def St.Vy(S:St w0 d l L O X w)(i:dS w w')(ho:u9 w' w.h.s c):St w0 d l L O (λB w=>X B w/\rU c.sv c.l B w) w':=
 (S.cP i).DH (fP c.sv c.l) ⟨⟨dg.j8 ho.1,λ_ b a e=>by have g:=(ho.1.lt b a).1;have h:=S.lt b e;omega⟩,
  λx f=>⟨(ho.2 x f).1,λj b a e=>by have g:=(ho.2 x f).2 j b a;have h:=S.lt b e;omega⟩⟩
def St.Nz(S:St w0 d l L O X w)(f:dS w w')(ho:u9 w' w.h.s c){r:c7}{g:List cQ}(e:ir w' w.h.s r g):St w0 d l L O (λB w=>(X B w/\rU c.sv c.l B w)/\yQ 106 3 r g.n (iZ g) B w) w':=
 (S.Vy f ho).DH (fF 106 3 r _ _ ae ae) ⟨dg.j8 e,λ_ b a h=>by have i:=(e.lt b a).1;have j:=S.lt b h;omega⟩
end
def upR(id:Nat)(q:cQ)(x:dL):dL:=if x.id=id then {x with cO:=q} else x
def vq(id:Nat)(q:cQ)(l:List dL)(k:Nat):List dL:=(l.take k).map (upR id q)++l.drop k
theorem NA(id:Nat)(q:cQ)(l:List dL)(k:Nat):(vq id q l k).n=l.n:=by grind[vq]
theorem aeJ{id:Nat}{l:List dL}(a:k<l.n):(vq id q l k)[k]?=cu l[k]:=by unfold vq;grind
theorem aeK{id:Nat}{l:List dL}(a:k<l.n):(vq id q l k).set k (upR id q l[k])=vq id q l (k+1):=by
 have b:k=((l.take k).map (upR id q)).n:=by grind
 unfold vq;rw[yl a,nM,set_append_right _ _ cN,<-b,Nat.sub_self,Db a,By,xJ];rfl
def abV{id:Nat}{l:List dL}(a:k<l.n)(h:l[k].id≠id):vq id q l k=vq id q l (k+1):=by unfold vq;rw[yl a,nM,Db a,xJ];show _++l[k]::_=_++([upR id q l[k]]++_);rw[show upR id q l[k]=l[k] from cX h];rfl
def abW{id:Nat}{l:List dL}(h:oL l B w):oL (vq id q l k) B w:=by intro x a;unfold vq at a;rcases gH.1 a with a|a;obtain⟨y,b,rfl⟩:=gT.1 a;have:=h y (lP b);unfold upR;split;exact this;omega;exact h x (mR a)
theorem aeL(id:Nat)(q:cQ)(n:Nat)(l:List dL):(⟨n,ez (vq id q l l.n)⟩:ej)=gV ⟨n,ez l⟩ id q:=by
 unfold vq gV ez;rw[qp,drop_length,wV,wU,wU];congr 1;refine map_congr_left λx _=>?_;show(upR id q x).todu=if x.todu.id=id then _ else _;unfold upR
 grind
def IA(h:fi b)(id:Nat)(a:dD q):fi (gV b id q):=
 fi.of h.next (by unfold gV;rw[mQ];exact h.fit.1) λs c=>by
  obtain⟨y,d,rfl⟩:=gT.1 c;have:=h.ok y d;split
  . exact⟨this.1,this.2.1,a,this.2.2.2⟩
  omega
section
attribute[local irreducible]wpList Code.wp Calls Oper.wp wpAnyH
theorem IB(G D M:Nat)(g:iV)(s:Pl)(ht:fi g.b.t)(hl:g.dI.length<=100000)(id:Nat)(q:cQ)(hq:dD q)(iW:List cQ)(J:fQ iW)(Q:iW.length<=1000)(v:c7)(A:gJ)(hA:A=cM 1 (λ_=>Value.pointer (some ⟨G,0,none⟩)))(w:cS)(h:dZ w G g D M s)(R:ly w v iW):
 CP_ 81 #[.agg A,.int .u64 id,mO q,v] w λe w'=>zm w w' G D M g (r8 id q iW (g.gt s)) e:=by
 obtain⟨AQ,N⟩:=fU (cM 3 (dE q));rw[dk N];have a7:=cz N;have HA:=cz hA;have HR:=cz R;have S:=St.start w (some D) [G,M,g.P] (iB G g D M s) h.x;have b3:=cz (qK.Pa h.x);have C1:=cz λW(X:dZ W G g D M s)=>lS G D M g s ht.fit W X;have O:=IA ht id hq;have C2:=cz λ(c:dY)(B:gJ)(hB:B=cM 2 (dO c))(hc:c.t=gV g.b.t id q)W(R:jd W c)(RL:ly W v iW)=>(show CP_ 144 #[.agg B,.int .u64 id,v] W λe w'=>∃B r,e=.returned (.tuple #[.agg B,r,.int .i64 (jV (gV g.b.t id q) id iW).2.2])/\lV w' W.heap.size B (jV (gV g.b.t id q) id iW).1/\ir w' W.heap.size r (jV (gV g.b.t id q) id iW).2.1/\dS W w' from by rw[<-hc];exact RT c B hB (by rw[hc];exact O.fit) id iW v (ik Q kM) W R RL);obtain⟨p,E,C⟩:=FB O id iW J;have K:=cz (show r8 id q iW (g.gt s)=zn (g.gt s) (jV (gV g.b.t id q) id iW) from ae);obtain⟨T,hT⟩:=dG (r8 id q iW (g.gt s));obtain⟨r,U⟩:=dG (jV (gV g.b.t id q) id iW);rw[hT,U] at K;rw[hT];rw[U] at C2 p E C;obtain⟨b2,jS,c⟩:=r;simp only at C2 p E C;have C3:=cz λr W X(R:ly W r jS)=>Cm G D M g s jS E (ik C (ik Q kM)) r A hA W X R;have C4:=cz λ(y:dY)(B:gJ)(hB:B=cM 2 (dO y))(hc:y.t=b2)W(X:dZ W G g D M (dM s jS))R=>tZ G D M g (dM s jS) y B hB (by rw[hc];exact p.fit) W X R;have C5:=cz λ(L:dY)(hc:L.t=b2)W(X:dZ W G {g with b:=L} D M (dM s jS))=>(show sW 57 #[.agg A] W (.int .i64 (Bj {g.gt s with b:=b2,s:=dM s jS})) from by rw[<-hc];exact zW G D M {g with b:=L} (dM s jS) A hA (show fi L.t by rw[hc];exact p) W X (ik hl kM));have a1:=cz ht.fit;clear h R hA N ht hl hq J Q O p E C hT U;go_enter func81,ntmps81;go_upto_region 3 with(first|refine jl 14 69 13 S 1 0 (dF G 0) ?_|refine A7 S (C1.o _ S.x.at) λW B c1 HB HC _ S=>?_|(obtain⟨cn,a,f,d⟩:=c1;refine yS S 0 ae 1 (v:=.slice f a.length d) ae rh ae sQ ?_)|refine fu λW S=>?_);have b5:a.length<=1000000:=by have u:=a1.o.1;rw[<-HC.o] at u;unfold dY.t at u;rwa [iv] at u
 go_loopw [19] (λi wr=>∃k:Nat,k<=a.length/\i=.int .i64 k/\Hid (St w (some D) [G,M,g.P] [⟨_,99,2,dO ⟨cn,a,f,d⟩⟩,⟨_,106,3,dE q⟩,⟨_,118,1,λ_=>dF G 0⟩] [⟨109,11,.slice f a.length d,a.length,ju (vq id q a k)⟩] (λB w=>qK G g D M s B w/\oL a B w) wr)) (λi _=>a.length-(intOf i).toNat);exact⟨0,cN,ae,cz S⟩;clear S;obtain⟨k,hk,rfl,hS⟩:=hrel;have S:=hS.o;clear hS;by_cases t:k<a.length
 . (obtain⟨I,rfl⟩:∃I,f=s_ I 0:=by obtain⟨I,cc,u⟩:=DC S.o0 (show 0<a.length by omega);simp only[lX] at u;exact⟨I,u.1⟩);(obtain⟨x,V⟩:=dG (a[k]);have F:k<(vq id q a k).length:=by rw[NA];exact t);(have H:(vq id q a k)[k]=x:=by have u:=aeJ (id:=id) (q:=q) t;grind);(have j:(ju (vq id q a k))[k*11]?=some (.int .u64 x.id):=by have u:=nC (vq id q a k) F (A:=cM 11 (iz x)) (by rw[H]) 0 cN;rw[xK] at u;rw[u,dy,c8 cN];rfl);have m:=cz j;have n:=cz t;by_cases l:x.id=id
   . have e1:decide ((x.id:Int)=(id:Int))=true:=gI cN;have e2:((x.id:Int)==(id:Int))=true:=wX.2 cN;have e3:decide (x.id=id)=true:=gI l;have o:=cz (show Dp (ju (vq id q a k)) (k*11+7) (cM 3 (dE q)).toList=ju (vq id q a (k+1)) from by
      rw[<-aeK t,V,show upR id q x= {x with cO:=q} from c8 l];exact Qc F H q _ (λi hi=>by unfold iz;rcases i with(_|_|_|_|_|_|_|_|_|_|_|i)<;>first|rfl))
     clear V F H j l;go_wp2_with (first|(first|refine jl 23 97 22 S 0 1 (.slice (s_ I 0) a.length d) ?_|refine jl 31 97 30 S 0 1 (.slice (s_ I 0) a.length d) ?_)|refine zw (v:=.int .u64 x.id) (zh S.o0 (by simpa using m.o)) ?_|(refine mz ae λK9 a3=>aea S 0 ae ae (k*11+7) (z:=3) (by have:=n.o;show k*11+7+3<=a.length*11;omega) ae ae a7.o fL (dJ _) λW S2=>a3 _ _ ?_;rw[show(⟨109,11,.slice (s_ I 0) a.length d,a.length,ju (vq id q a k)⟩:O4).xs=ju (vq id q a k) from ae,o.o] at S2;clear a3 S;have S:=S2;clear S2)|refine fO ?_);go_roundw;have:=n.o;exact⟨k+1,cN,by go_num,cz S⟩;have:=n.o;simp[intOf];omega
   . have e1:decide ((x.id:Int)=(id:Int))=false:=jC cN;have e2:((x.id:Int)==(id:Int))=false:=lr.2 cN;have e3:decide (x.id=id)=false:=jC l;have o:=cz (abV (id:=id) (q:=q) t (by rw[V];exact l));clear V F H j l;go_wp2_with (first|refine jl 23 97 22 S 0 1 (.slice (s_ I 0) a.length d) ?_|refine zw (v:=.int .u64 x.id) (zh S.o0 (by simpa using m.o)) ?_);go_roundw;have:=n.o;rw[o.o] at S;exact⟨k+1,cN,by go_num,cz S⟩;have:=n.o;simp[intOf];omega
 . obtain rfl:k=a.length:=cN;have a8:=cz (show B=cM 2 (dO ⟨cn,vq id q a a.length,f,d⟩) from by rw[HB.o];unfold dO dY.sv;simp only[NA]);have b1:=cz (show(dY.t ⟨cn,vq id q a a.length,f,d⟩)=gV g.b.t id q from by rw[<-HC.o];exact aeL id q cn a);have a6:=λ(W:cS)(X:W.ownsRow w.heap.size 109 11 (.slice f a.length d) a.length (ju (vq id q a a.length)))=>(show dg W 109 11 (.slice f (vq id q a a.length).length d) (vq id q a a.length).length (ju (vq id q a a.length)) from by rw[NA];exact dg.j8 X);have b4:=cz a6;clear a6;go_upto_region 9 with(first|(refine(C2.o _ B a8.out b1.out _ ⟨b4.o _ S.o0,λx V=>(abW (B:=eM _ _) S.x.2 x V).1⟩ (HR.o.fr S.fr ax ae)).mono ?_;rintro e W ⟨B2,r,rfl,⟨y,a2,a4,a5⟩,U,hb⟩;have a9:=cz a2;have Y:=cz a4;have HF:=cz (dx U);replace S:=S.Nz hb a5 U;clear a2 a4 a5 U;obtain⟨ra,rc,rfl⟩:=HF.o;clear HF)|refine fO ?_|refine fu λW S=>?_);unfold zn at K;simp only at K;by_cases g2:c=0;(case neg=>have g3:(c !=0)=true:=fK.2 g2;rw[c8 g2] at K;clear g2;go_wp2_with (refine(sI c _).mono ?_;rintro e W ⟨rfl,rfl⟩;);go_ret;rw[K.o];exact⟨g,s,ae,ae,S.x.1.1.1.at,ae,λh=>h,S.fr⟩);subst g2;rw[cX aI] at K;go_wp2_with (first|(first|refine jl 53 69 52 S 2 0 (dF G 0) ?_)|(refine aj (C3.o _ _ S.x.1.1.1.at S.x.2.1) λW⟨hg,hf⟩=>?_;replace S:=S.call (X':=λB w=>qK G g D M (dM s jS) B w/\rU y.sv y.l B w) hf aw (λk hk=>.inl (by rw[fS.1 hk];simp)) ((iB G g D M _).still (fP y.sv y.l)) (λB h=>⟨h.1.1.1.pl hf (by rw[fS];exact b3.o.2.1) hg.kB,(fP _ _).fr h.1.2 hf⟩);clear hg)|(refine ah (C4.o y B2 a9.o Y.o _ S.x.1.at S.x.2.sl) λL W⟨hc,hg,ho,hf⟩=>?_;have Z:=cz (hc.trans Y.o);replace S:=(S.EH (λB w h=>h.1) (iB G g D M _)).Yk hg ho hf aZ;clear hc hg)|refine je S (C5.o L Z.o _ S.x.at) λW S=>?_|refine fO ?_);go_ret;rw[K.o];exact⟨{g with b:=L},dM s jS,ae,ae,S.x.at,by unfold iV.gt;rw[<-Z.o],λh=>h,S.fr⟩
def Qu(q:Nat)(a:Option Addr)(n c:Nat)(W:cS):Sem.run prog (Instr.field 99 (bV #[bU ct (q:Int),bX a n c]) 1) W=.ok (bX a n c) W:=by rfl
theorem jd.fr{d:Option Nat}{l:cV}{w w':cS}{b:dY}(h:jd w b)(f:Fr d l w w'):jd w' b:=
 ⟨dg.fr h.1 f ax ae,λx a=>dg.fr (h.2 x a) f ax ae⟩
def FG(G D M:Nat)(g:iV)(s:Pl)(Z:fi g.b.t)(b:dY)(B:gJ)(V:B=cM 2 (dO b))(E:zf b.t)(y:dL)(H:gJ)(C:H=cM 11 (iz y))(F:dD y.cO)(A:gJ)(U:A=cM 1 (λ_=>bW (cu ⟨G,0,cw⟩)))(w:cS)(h:dZ w G g D M s)(R:jd w b):
 CP_ 65 #[bV A,bV B,bV H] w λe w'=>zm w w' G D M g (oM b.t y.todu (g.gt s)) e:=by
 have HA:=cz U;have HB:=cz V;have H:=cz C;have HR:=cz R;obtain⟨AQ,n⟩:=fU (cM 3 (dE y.cO));have J:=cz n;have S:=St.start w (cu D) [G,M,g.P] (iB G g D M s) h.x;have N:=cz (qK.Pa h.x);have CP:=cz λW(X:dZ W G g D M s)=>mL G D M g s W X;have C2:=cz λW(X:dZ W G g D M s)=>lS G D M g s Z.fit W X;obtain⟨z,t⟩:=dG (gr g.b.t.cU y.id);have C3:=cz λ(m:List dL)(v:c7)(I:ez m=g.b.t.cU)W(R:gC W v m)=>(show sW 114 #[v,bU ct y.id] W (bU ct z) from by rw[<-t,<-I];exact EF m v y.id (by have H:=Z.fit.1;rw[<-I,iv] at H;exact H) W R);have I:=cz λW X=>Kr g.P D M s y.cO F z W X;obtain⟨i,f,-⟩:=FE (s:=s) h.kB.dev.1.nw F z;have l:=cz (show oM b.t y.todu (g.gt s)=vm b.t (g.gt s) (fR s y.cO z) from by rw[<-t];rfl);obtain⟨T,Y⟩:=dG (oM b.t y.todu (g.gt s));obtain⟨r,H⟩:=dG (fR s y.cO z);rw[Y,H] at l;rw[Y];rw[dk n,H] at I;rw[H] at i f;obtain⟨j,jS,c⟩:=r;simp only at I i f;unfold vm at l;simp only at l;have C5:=cz λr W X(R:ly W r jS)=>Cm G D M g j jS i (ik f kM) r A U W X R;have C6:=cz λW(X:dZ W G g D M (dM j jS))R=>tZ G D M g (dM j jS) b B V E W X R;clear h R U V C n Z E F t i f Y H;go_enter func65,ntmps65;go_upto_region 1 with(first|refine yT S rfl HA.o rfl λF S=>?_|refine yT S rfl HB.o rfl λO S=>?_|refine fu λW S=>?_);refine eR S dC [⟨O.h.s,109,11,iz y⟩,⟨F.h.s,99,2,dO b⟩,⟨w.h.s,118,1,λ_=>dF G 0⟩] Cz λW S=>?_;refine dh 0 (dF w.h.s 0) ?_;refine dh 1 (dF G 0) ?_;refine dh 3 (dF O.h.s 7) ?_;refine ij 4 (bV AQ) ae (yKn bf (o:=7) (m:=3) ae (dE y.cO) (show 7+3<=11 by decide) (wq y) J.o fL) ?_;refine dh 5 (dF w.h.s 0) ?_;refine dh 6 (dF G 0) ?_;refine dh 9 (dF O.h.s 0) ?_;refine dh 10 (bU ct y.id) ?_;refine kK 2 λK p=>?_;go_wp2_with fail;refine mG (CP.o _ S.x.at) ?_;refine gy p ?_;refine kK 7 λK p=>?_;go_wp2_with fail;refine(C2.o _ S.x.at).mono ?_;rintro e W ⟨F,rfl,⟨⟨Q,u,d,a⟩,rfl,hc,ho⟩,F⟩;have H:=cz hc;replace S:=S.kq F ho;clear hc;rw[show cM 2 (dO ⟨Q,u,d,a⟩)=#[bU ct Q,bX d u.n a] from ae];refine gy p ?_;refine ij 8 (bX d u.n a) ae (Or.inl ⟨dC,λw F=>by have F:=Qu Q d u.n a w;go_simp⟩) ?_;refine kK 11 λK p=>?_;go_wp2_with fail;refine je S (C3.o u _ (gQ ej.cU H.o) _ ⟨S.q0,λx F=>(S.x.2 x F).1⟩) λW S=>?_;refine gy p ?_;refine kK 12 λK p=>?_;go_wp2_with fail;refine ah (I.o _ S.x.1.at.kB) λr W⟨ho,H,q⟩=>?_;have F:=cz (dx ho);replace S:=S.um (X':=qK G g D M j) q aw eQ (iB G g D M j) (λB h=>h.1.pl q eQ H) ho ae ae;obtain⟨H,I,rfl⟩:=F.o;refine gy p ?_;refine dh 13 _ ?_;refine dh 14 (bX H jS.n I) ?_;refine dh 15 (bU cq c) ?_;refine dh 16 _ ?_;refine dh 17 _ ?_;refine qG ?_;by_cases g2:c=0;case neg=>have g3:(c !=0)=cx:=fK.2 g2;rw[c8 g2] at l;clear g2;go_wp2_with (refine(sI c _).mono ?_;rintro e W ⟨rfl,rfl⟩;);go_ret;rw[l.o];exact⟨g,j,ae,ae,S.x.at,ae,id,S.fr⟩
 subst g2;rw[cX aI] at l;go_wp2_with (first|(refine aj (C5.o _ _ S.x.at S.q0) λW⟨F,q⟩=>?_;replace S:=S.call (X':=qK G g D M (dM j jS)) q aw (λk H=>.inl (by rw[fS.1 H];simp)) (iB G g D M _) (λB h=>h.pl q (by rw[fS];exact N.o.2.1) F.kB);clear F)|(refine ah (C6.o _ S.x.at (jd.fr HR.o S.fr)) λH W⟨hc,F,ho,q⟩=>?_;have L:=cz hc;replace S:=S.Yk F ho q aZ;clear hc F)|refine fO ?_);go_ret;rw[l.o];exact⟨{g with b:=H},dM j jS,ae,ae,S.x.at,by unfold iV.gt;rw[<-L.o],id,S.fr⟩
theorem rd3{a:Act}{j:Nat}{o o' d:Oper}(f:Region.ready .any ops listed=[i,j,k])(ho:ops[i]?=cu o)(b:ops[j]?=cu o')(c:ops[k]?=cu d)(p:Region.wanted o (yielded ops a.tmps)=cx)(g:Region.wanted o' (yielded ops a.tmps)=cx)(l:Region.wanted d (yielded ops a.tmps)=cx)(h:∀K,Shut (∀a w,SS w->(SS w->wpAnyH P .any ops Q SS fuel (listed.setIfInBounds i cx) a w)->K a w)->o.wp P a w K Q)(m:∀K,Shut (∀a w,SS w->(SS w->wpAnyH P .any ops Q SS fuel (listed.setIfInBounds j cx) a w)->K a w)->o'.wp P a w K Q)(n:∀K,Shut (∀a w,SS w->(SS w->wpAnyH P .any ops Q SS fuel (listed.setIfInBounds k cx) a w)->K a w)->d.wp P a w K Q):wpAnyH P .any ops Q SS (fuel+1) listed a w:=
 wpAnyH_ready f eQ (AllReadyH.cons ho (λK e=>by grind) (AllReadyH.cons b (λK e=>by grind) (AllReadyH.cons c (λK e=>by grind) .nil)))
def abX(G D M:Nat)(g:iV)(s:Pl)(Y:fi g.b.t)(cT:fM)(H:cT.s<=140737488355328)(p:Nat)(w:cS)(h:dZ w G g D M s)(V:cL w p 9 1 (λ_=>bY cT)):
 CP_ 100 (#[bV (cM 1 λ_=>bW (cu ⟨G,0,cw⟩))]++ #[bW (cu ⟨p,0,cw⟩)]) w λe w'=>zm w w' G D M g (uC cT (g.gt s)) e:=by
 show CP_ 100 #[bV (cM 1 λ_=>dF G 0),dF p 0] w _;obtain⟨A,F⟩:=fU (cM 1 (λ_=>dF G 0));rw[<-F];have I:=cz F;have S:=St.start w (cu D) [G,M,g.P] (iB G g D M s) h.x;have C2:=cz λW(X:dZ W G g D M s)=>lS G D M g s Y.fit W X;have I:=cz λ(c:dY)(B:gJ)(d:B=cM 2 (dO c))(hc:c.t=g.b.t)W(R:jd W c)=>(show CP_ 101 #[bV B,bY cT] W λe w'=>∃B D,e=cj (cg #[bV B,bV D,bU cq (jI g.b.t cT).2.2])/\lV w' W.h.s B (jI g.b.t cT).1/\ze w' W.h.s D (jI g.b.t cT).2.1/\dS W w' from by rw[<-hc];exact RS c B d (by rw[hc];exact Y.fit) cT H W R);obtain⟨u,v⟩:=FA Y cT;have z:=cz (show uC cT (g.gt s)=oB (g.gt s) (jI g.b.t cT) from ae);obtain⟨T,J⟩:=dG (uC cT (g.gt s));obtain⟨r,U⟩:=dG (jI g.b.t cT);rw[J,U] at z;rw[J];rw[U] at I u v;obtain⟨H,t2,c⟩:=r;simp only at I u v;unfold oB at z;simp only at z;have C4:=cz λ(q:dY)(B:gJ)(d:B=cM 2 (dO q))(hc:q.t=H)(y:dL)(Z:gJ)(H:Z=cM 11 (iz y))(m:y.todu=t2)W X R=>FG G D M g s Y q B d (by rw[hc];exact u.fit) y Z H (by have H:=v.2.2.1;rw[<-m] at H;exact H) A F W X R;have H:=cz V;clear h F Y J U u v V;go_enter func100,ntmps100
 go_upto_region 1 with(refine fu λW S=>?_);refine eR S dC [⟨w.h.s,118,1,λ_=>dF G 0⟩] Cz λW S=>?_;refine dh 0 (dF w.h.s 0) ?_;refine dh 1 (dF G 0) ?_;refine ij 3 (bY cT) ae (gW (λw h=>cL.cell (cL.fr H.o h.fr ax aD) (i:=0) cN) ae Gr) ?_;all_goals(first|refine rd3 (i:=2) (j:=9) (k:=10) dk_ ae ae ae dC dC dC (λK a=>?_) (λK a=>?_) (λK a=>?_))
 all_goals(first|(go_wp2_with fail;refine A7 S (C2.o _ S.x.at) λW B p N O _ S=>?_;refine gy a ?_)|(refine gu S sR ot ae λJ W S=>?_;refine gy a ?_)|(refine gu S xP pS ae λL W S=>?_;refine gy a ?_))
 all_goals(clear a K)
 all_goals(first|(refine rd3 (i:=4) (j:=9) (k:=10) dk_ ae ae ae dC dC dC (λK a=>?_) (λK a=>?_) (λK a=>?_))|(refine Bt 2 10 (λK a=>?_) λK a=>?_)|refine Bt 2 9 (λK a=>?_) λK a=>?_)
 all_goals(first|(go_wp2_with fail;refine(I.o p B N.o O.o _ ⟨S.q0,λx E=>(S.x.2 x E).1⟩).mono ?_;rintro e W ⟨F,H,rfl,⟨q,d,hc,ho⟩,⟨Z,C,m,-⟩,U⟩;have f:=cz d;have n:=cz hc;have l:=cz C;have o:=cz m;replace S:=S.kq U ho;clear d hc C m;refine gy a ?_)|(refine gu S sR ot ae λJ W S=>?_;refine gy a ?_)|(refine gu S xP pS ae λL W S=>?_;refine gy a ?_)|(go_wp2_with fail;refine A7 S (C2.o _ S.x.at) λW B p N O _ S=>?_;refine gy a ?_))
 all_goals(clear a K)
 all_goals(try(refine nz 5 _ ?_))
 all_goals(try(refine nz 6 (bV F) ?_))
 all_goals(try(refine nz 7 (bV H) ?_))
 all_goals(try(refine nz 8 (bU cq c) ?_))
 all_goals(first|(refine Bt 9 10 (λK a=>?_) λK a=>?_)|(refine Bt 4 10 (λK a=>?_) λK a=>?_)|(refine Bt 4 9 (λK a=>?_) λK a=>?_)|refine qf 2 λK a=>?_)
 all_goals(first|(refine gu S sR ot ae λJ W S=>?_;refine gy a ?_)|(refine gu S xP pS ae λL W S=>?_;refine gy a ?_)|(go_wp2_with fail;refine(I.o p B N.o O.o _ ⟨S.q0,λx E=>(S.x.2 x E).1⟩).mono ?_;rintro e W ⟨F,H,rfl,⟨q,d,hc,ho⟩,⟨Z,C,m,-⟩,U⟩;have f:=cz d;have n:=cz hc;have l:=cz C;have o:=cz m;replace S:=S.kq U ho;clear d hc C m;refine gy a ?_)|(go_wp2_with fail;refine A7 S (C2.o _ S.x.at) λW B p N O _ S=>?_;refine gy a ?_))
 all_goals(clear a K)
 all_goals(try(refine nz 5 _ ?_))
 all_goals(try(refine nz 6 (bV F) ?_))
 all_goals(try(refine nz 7 (bV H) ?_))
 all_goals(try(refine nz 8 (bU cq c) ?_))
 all_goals(first|(refine qf 10 λK a=>?_)|(refine qf 9 λK a=>?_)|refine qf 4 λK a=>?_)
 all_goals(first|(refine gu S xP pS ae λL W S=>?_;refine gy a ?_)|(refine gu S sR ot ae λJ W S=>?_;refine gy a ?_)|(go_wp2_with fail;refine(I.o p B N.o O.o _ ⟨S.q0,λx E=>(S.x.2 x E).1⟩).mono ?_;rintro e W ⟨F,H,rfl,⟨q,d,hc,ho⟩,⟨Z,C,m,-⟩,U⟩;have f:=cz d;have n:=cz hc;have l:=cz C;have o:=cz m;replace S:=S.kq U ho;clear d hc C m;refine gy a ?_))
 all_goals(clear a K)
 all_goals(try(refine nz 5 _ ?_))
 all_goals(try(refine nz 6 (bV F) ?_))
 all_goals(try(refine nz 7 (bV H) ?_))
 all_goals(try(refine nz 8 (bU cq c) ?_))
 all_goals(first|refine qf 11 λK a=>?_)
 all_goals(first|((first|(refine km S 0 ae ae ae f.o nU (fW _) λW S=>?_)|refine km S 1 rfl rfl rfl f.o nU (fW _) λW S=>?_);refine gy a ?_))
 all_goals(clear a K)
 all_goals(first|refine qf 12 λK a=>?_)
 all_goals(first|((first|(refine km S 0 ae ae ae l.o uX (mI _) λW S=>?_)|refine km S 1 rfl rfl rfl l.o uX (mI _) λW S=>?_);refine gy a ?_))
 all_goals(clear a K)
 all_goals(refine dh 13 _ ?_)
 all_goals(refine qG ?_)
 all_goals(
  first|(replace S:St w (cu D) [G,M,g.P] [⟨L,109,11,iz Z⟩,⟨J,99,2,dO q⟩,⟨w.h.s,118,1,λ_=>dF G 0⟩] _ _ _:=S)|(replace S:St w (cu D) [G,M,g.P] [⟨L,109,11,iz Z⟩,⟨J,99,2,dO q⟩,⟨w.h.s,118,1,λ_=>dF G 0⟩] _ _ _:=S.aek)
  by_cases g2:c=0
  case neg=>
   have g3:(c !=0)=cx:=fK.2 g2;rw[c8 g2] at z;clear g2;go_wp2;go_ret;rw[z.o];exact bM
  subst g2;rw[cX aI,<-n.o,<-o.o] at z
  go_wp2_with first|(go_at_call 65;refine(C4.o q F f.o n.o Z H l.o o.o _ S.x.1.1.at ⟨S.q0,λx E=>(S.x.2 x E).1⟩).mono ?_;rintro e W a;have Q:=cz a;clear a;obtain⟨g3,R,rfl,F,H,b,t,I⟩:=Q.o;clear Q;have J:=S.fr.step I aw (λk I=>.inl I);have I:=cz (And.intro F (And.intro H (And.intro b t)));clear F H b t;rw[<-z.o])|refine fO ?_
  go_ret;obtain⟨F,H,b,t⟩:=I.o;rw[<-z.o] at b;exact⟨g3,R,ae,F,H,b,t,J⟩)
def Lm(h:fi b)(cT:fM)(i:Int):vj (qJ b cT i).1:=by unfold qJ;cases eW cT with|none=>exact o7|some p=>simp only[BB];split;unfold tH;simp only;split;exact o7;split;exact o7;split;exact o7;exact Vu h.ok _;exact o7
def ZJ(bs:cV)(i:Int)(x:GT)(v:du×Int):GT×Int:=
 if v.2≠0 then(x,v.2) else if 128<bs.n then(x,92) else sS v.1.id x (lh x.s v.1.cO i bs)
def aeM(i:Int)(x:GT)(v:du×Int):GT×Int:=if v.2≠0 then(x,v.2) else sS v.1.id x (iF x.s v.1.cO i)
theorem Yo(G D M:Nat)(g:iV)(s:Pl)(ht:fi g.b.t)(hl:g.dI.length<=100000)(ho:s.dv.ops<=990000000)(cT:fM)(a9:cT.size<=140737488355328)(i:Int)(bs:cV)(ba:Option Addr)(bc:Nat)(c1 c2 c3:Nat)(w:cS)(h:dZ w G g D M s)(a7:lM w 5 (.slice ba bs.length bc) bs)(L:cL w c1 9 1 (λ_=>.string cT))(N:cL w c2 3 1 (λ_=>.int .i64 i))(O:cL w c3 22 1 (λ_=>.slice ba bs.length bc)):
 CP_ 78 (#[.agg (cM 1 λ_=>.pointer (some ⟨G,0,none⟩))]++ #[.pointer (some ⟨c1,0,none⟩),.pointer (some ⟨c2,0,none⟩),.pointer (some ⟨c3,0,none⟩)]) w λe w'=>zm w w' G D M g (mM cT i bs (g.gt s)) e:=by
 show CP_ 78 #[.agg (cM 1 λ_=>dF G 0),dF c1 0,dF c2 0,dF c3 0] w _;obtain⟨A,J⟩:=fU (cM 1 (λ_=>dF G 0));rw[<-J];have HA:=cz J;have S:=St.start w (some D) [G,M,g.P] (iB G g D M s) h.x;have a3:=cz (qK.Pa h.x);have CP:=cz λW(X:dZ W G g D M s)=>mL G D M g s W X;have C1:=cz λW(X:dZ W G g D M s)=>DR G D M g s A J ht.fit cT a9 i W X;have z:=Lm ht cT i;obtain⟨vb,Y⟩:=dG (qJ g.b.t cT i);have b:=cz (show mM cT i bs (g.gt s)=ZJ bs i (g.gt s) (qJ g.b.t cT i) from ae);obtain⟨T,hT⟩:=dG (mM cT i bs (g.gt s));rw[hT,Y] at b;rw[hT];rw[Y] at C1 z;obtain⟨t0,cv⟩:=vb;simp only at C1 z;unfold ZJ at b;simp only at b;have a8:=h.kB.dev.1;have b2:=h.kB.ok.1;have E:=cz λ(y:dL)(f:dD y.cO)W(X:fh W g.P D M s)(F:Fr (some D) [G,M,g.P] w W)=>U4 g.P D M s (ik ho kM) y.cO f i (.slice ba bs.length bc) bs W X (lM.fr a7 F ax ae);have Z:=cz λC(y:dL)q(hq:dD q)iW(Q:fQ iW)(b1:iW.length<=1000)r W X R=>IB G D M g C ht hl y.id q hq iW Q b1 r A J W X R;have a5:=cz λ(y:dL)(f:dD y.cO)=>FF a8 b2 f i bs;have a6:=cz L;have I:=cz N;have l:=cz O;have HV:=cz z.2.2.1;clear J L N O;go_enter func78,ntmps78
 go_upto_region 2 with(first|(first|refine zw (cL.cell (cL.fr a6.o S.fr ax aD) (i:=0) cN) ?_|refine zw (cL.cell (cL.fr I.o S.fr ax aD) (i:=0) cN) ?_)|(refine(C1.o _ S.x.at).mono ?_;rintro e WV ⟨B,rfl,⟨y,hB,hy,-⟩,hb⟩;have HB:=cz hB;have HY:=cz hy;replace S:=S.cP hb;clear hB hy)|refine fO ?_|refine fu λW S=>?_);by_cases g2:cv=0;case neg=>have g3:(cv !=0)=true:=fK.2 g2;rw[c8 g2] at b;go_wp2;go_ret;rw[b.o];exact aR
 subst g2;rw[cX aI] at b;by_cases g5:128<bs.length;case pos=>have g6:decide (128<bs.length)=true:=gI g5;have g7:decide ((128:Int)<(bs.length:Int))=true:=gI cN;rw[c8 g5] at b;go_wp2_with (refine jF (cL.cell (cL.fr l.o S.fr ax aD) (i:=0) cN) ae UU ?_);go_ret;rw[b.o];exact aR
 have g6:decide (128<bs.length)=false:=jC g5;have g7:decide ((128:Int)<(bs.length:Int))=false:=jC cN;rw[cX g5] at b;rw[<-HY.o] at b;have f:dD y.cO:=by have h1:=HV.o;rw[<-HY.o] at h1;exact h1
 obtain⟨p,u,v⟩:=a5.o y f;have E:=cz (E.o y f);obtain⟨t,V⟩:=dG (lh s y.cO i bs);rw[show y.todu.cO=y.cO from ae,show(g.gt s).s=s from ae,V] at b;rw[V] at E p u v;obtain⟨C,q1,iW,c⟩:=t;simp only at E p u v;obtain⟨AQ,n⟩:=fU (cM 3 (dE y.cO));obtain⟨A1,j⟩:=fU (cM 3 (dE q1));rw[dk n,dk j] at E;have Z:=cz (Z.o C y q1 p iW u (ik v kM));rw[dk j] at Z;have a2:=cz n;have a1:=cz j;unfold sS at b;simp only at b;clear n j;go_upto_region 6 with(refine jF (cL.cell (cL.fr l.o S.fr ax aD) (i:=0) cN) ae UU ?_);refine eR S dC [⟨WV.heap.size,109,11,iz y⟩,⟨w.heap.size,118,1,λ_=>dF G 0⟩] Cz λW S=>?_;refine dh 0 (dF w.heap.size 0) ?_;refine dh 1 (dF G 0) ?_;refine dh 3 (dF WV.heap.size 7) ?_;refine ij 4 (.agg AQ) ae (yKn bf (o:=7) (m:=3) ae (dE y.cO) (show 7+3<=11 by decide) (wq y) a2.o fL) ?_;refine ij 5 (.int .i64 i) ae (gW (λw h=>cL.cell (cL.fr I.o h.fr ax aD) (i:=0) cN) ae Dy) ?_;refine ij 6 (.slice ba bs.length bc) ae (gW (λw h=>cL.cell (cL.fr l.o h.fr ax aD) (i:=0) cN) ae UU) ?_;repeat' first|refine Th ?_|refine nz 8 _ ?_|refine nz 9 (.agg A1) ?_|refine nz 10 (.slice ra iW.length rc) ?_|refine nz 11 (.int .i64 c) ?_|refine nz 14 _ ?_|refine nz 15 _ ?_|refine Bt 2 12 (λK a=>?_) λK a=>?_|refine Bt 7 12 (λK a=>?_) λK a=>?_|refine qf 2 λK a=>?_|refine qf 12 λK a=>?_|refine qf 7 λK a=>?_|refine qf 13 λK a=>?_|(go_wp2_with fail;refine mG (CP.o _ S.x.at) ?_;refine gy a ?_;clear a)|(refine gu S xE iU ae λE8 W S=>?_;refine gy a ?_;clear a)|(go_wp2_with fail;refine ah (E.o _ S.x.at.kB S.fr) λr W⟨U,hp,F⟩=>?_;have HF:=cz (dx U);replace S:=S.um (X':=qK G g D M C) F aw (λk hk=>.inl (by rw[fS.1 hk];simp)) (iB G g D M C) (λB h=>h.pl F (by rw[fS];exact a3.o.2.1) hp) U ae ae;obtain⟨ra,rc,rfl⟩:=HF.o;refine gy a ?_;clear a)|(refine km S 0 ae ae ae a1.o fL (dJ _) λW S=>?_;refine gy a ?_;clear a)
 all_goals(
  refine cz ?_;by_cases g2:c=0
  case neg=>
   have g3:(c !=0)=true:=fK.2 g2;rw[c8 g2] at b
   go_wp2_with (refine(sI c _).mono ?_;rintro e W ⟨rfl,rfl⟩;)
   go_ret;rw[b.o];exact⟨g,C,ae,ae,S.x.at,ae,id,S.fr⟩
  subst g2;rw[cX aI] at b;have H:=cz (show T=r8 y.id q1 iW (g.gt C) from b.o)
  go_wp2_with first|(refine(Z.o _ _ S.x.at S.q0).mono ?_;rintro e W a;have a4:=cz a;clear a;obtain⟨g3,s3,rfl,hP,hg,d,x,F⟩:=a4.o;have hF:=S.fr.step F aw (λk hk=>.inl hk);have HR:=cz (And.intro hP (And.intro hg (And.intro d x)));rw[<-H.o])|refine fO ?_
  go_ret;obtain⟨hP,hg,d,x⟩:=HR.o;rw[<-H.o] at d;exact⟨g3,s3,ae,hP,hg,d,x,hF⟩)
def abY(G D M:Nat)(g:iV)(s:Pl)(ht:fi g.b.t)(hl:g.dI.length<=100000)(ho:s.dv.ops<=990000000)(cT:fM)(a7:cT.size<=140737488355328)(i:Int)(c1 c2:Nat)(w:cS)(h:dZ w G g D M s)(I:cL w c1 9 1 (λ_=>.string cT))(J:cL w c2 3 1 (λ_=>.int .i64 i)):
 CP_ 94 (#[.agg (cM 1 λ_=>.pointer (some ⟨G,0,none⟩))]++ #[.pointer (some ⟨c1,0,none⟩),.pointer (some ⟨c2,0,none⟩)]) w λe w'=>zm w w' G D M g (rH cT i (g.gt s)) e:=by
 show CP_ 94 #[.agg (cM 1 λ_=>dF G 0),dF c1 0,dF c2 0] w _;obtain⟨A,H⟩:=fU (cM 1 (λ_=>dF G 0));rw[<-H];have HA:=cz H;have S:=St.start w (some D) [G,M,g.P] (iB G g D M s) h.x;have a2:=cz (qK.Pa h.x);have CP:=cz λW(X:dZ W G g D M s)=>mL G D M g s W X;have Y:=cz λW(X:dZ W G g D M s)=>DR G D M g s A H ht.fit cT a7 i W X;have x:=Lm ht cT i;obtain⟨vb,U⟩:=dG (qJ g.b.t cT i);have b:=cz (show rH cT i (g.gt s)=aeM i (g.gt s) (qJ g.b.t cT i) from ae);obtain⟨T,hT⟩:=dG (rH cT i (g.gt s));rw[hT,U] at b;rw[hT];rw[U] at Y x;obtain⟨t0,cv⟩:=vb;simp only at Y x;unfold aeM at b;simp only at b;have a6:=h.kB.dev.1;have a9:=h.kB.ok.1;have C:=cz λ(y:dL)(f:dD y.cO)W(X:fh W g.P D M s)(L:Fr (some D) [G,M,g.P] w W)=>R' g.P D M s (ik ho kM) y.cO f i W X;have V:=cz λz(y:dL)q(hq:dD q)iW(N:fQ iW)(a8:iW.length<=1000)r W X R=>IB G D M g z ht hl y.id q hq iW N a8 r A H W X R;have a4:=cz λ(y:dL)(f:dD y.cO)=>D1 a6 a9 f i;have a5:=cz I;have F:=cz J;have HV:=cz x.2.2.1;clear H I J;go_enter func94,ntmps94
 go_upto_region 2 with(first|(first|refine zw (cL.cell (cL.fr a5.o S.fr ax aD) (i:=0) cN) ?_|refine zw (cL.cell (cL.fr F.o S.fr ax aD) (i:=0) cN) ?_)|(refine(Y.o _ S.x.at).mono ?_;rintro e WV ⟨B,rfl,⟨y,hB,hy,-⟩,hb⟩;have HB:=cz hB;have HY:=cz hy;replace S:=S.cP hb;clear hB hy)|refine fO ?_|refine fu λW S=>?_);by_cases g2:cv=0;case neg=>have g3:(cv !=0)=true:=fK.2 g2;rw[c8 g2] at b;go_wp2;go_ret;rw[b.o];exact aR
 subst g2;rw[cX aI] at b;rw[<-HY.o] at b;have f:dD y.cO:=by have h1:=HV.o;rw[<-HY.o] at h1;exact h1
 obtain⟨n,p,u⟩:=a4.o y f;have C:=cz (C.o y f);obtain⟨t,Q⟩:=dG (iF s y.cO i);rw[show y.todu.cO=y.cO from ae,show(g.gt s).s=s from ae,Q] at b;rw[Q] at C n p u;obtain⟨z,q1,iW,c⟩:=t;simp only at C n p u;obtain⟨AQ,l⟩:=fU (cM 3 (dE y.cO));obtain⟨A1,j⟩:=fU (cM 3 (dE q1));rw[dk l,dk j] at C;have V:=cz (V.o z y q1 n iW p (ik u kM));rw[dk j] at V;have a1:=cz l;have Z:=cz j;unfold sS at b;simp only at b;clear l j;go_upto_region 4 with(fail);refine eR S dC [⟨WV.heap.size,109,11,iz y⟩,⟨w.heap.size,118,1,λ_=>dF G 0⟩] Cz λW S=>?_;refine dh 0 (dF w.heap.size 0) ?_;refine dh 1 (dF G 0) ?_;refine dh 3 (dF WV.heap.size 7) ?_;refine ij 4 (.agg AQ) ae (yKn bf (o:=7) (m:=3) ae (dE y.cO) (show 7+3<=11 by decide) (wq y) a1.o fL) ?_;refine ij 5 (.int .i64 i) ae (gW (λw h=>cL.cell (cL.fr F.o h.fr ax aD) (i:=0) cN) ae Dy) ?_;repeat' first|refine Th ?_|refine nz 7 _ ?_|refine nz 8 (.agg A1) ?_|refine nz 9 (.slice ra iW.length rc) ?_|refine nz 10 (.int .i64 c) ?_|refine nz 13 _ ?_|refine nz 14 _ ?_|refine Bt 2 11 (λK a=>?_) λK a=>?_|refine Bt 6 11 (λK a=>?_) λK a=>?_|refine qf 2 λK a=>?_|refine qf 11 λK a=>?_|refine qf 6 λK a=>?_|refine qf 12 λK a=>?_|(go_wp2_with fail;refine mG (CP.o _ S.x.at) ?_;refine gy a ?_;clear a)|(refine gu S xE iU ae λE8 W S=>?_;refine gy a ?_;clear a)|(go_wp2_with fail;refine ah (C.o _ S.x.at.kB S.fr) λr W⟨O,hp,L⟩=>?_;have HF:=cz (dx O);replace S:=S.um (X':=qK G g D M z) L aw (λk hk=>.inl (by rw[fS.1 hk];simp)) (iB G g D M z) (λB h=>h.pl L (by rw[fS];exact a2.o.2.1) hp) O ae ae;obtain⟨ra,rc,rfl⟩:=HF.o;refine gy a ?_;clear a)|(refine km S 0 ae ae ae Z.o fL (dJ _) λW S=>?_;refine gy a ?_;clear a)
 all_goals(
  refine cz ?_;by_cases g2:c=0
  case neg=>
   have g3:(c !=0)=true:=fK.2 g2;rw[c8 g2] at b
   go_wp2_with (refine(sI c _).mono ?_;rintro e W ⟨rfl,rfl⟩;)
   go_ret;rw[b.o];exact⟨g,z,ae,ae,S.x.at,ae,id,S.fr⟩
  subst g2;rw[cX aI] at b;have E:=cz (show T=r8 y.id q1 iW (g.gt z) from b.o)
  go_wp2_with first|(refine(V.o _ _ S.x.at S.q0).mono ?_;rintro e W a;have a3:=cz a;clear a;obtain⟨g3,s3,rfl,hP,hg,d,v,L⟩:=a3.o;have hF:=S.fr.step L aw (λk hk=>.inl hk);have HR:=cz (And.intro hP (And.intro hg (And.intro d v)));rw[<-E.o])|refine fO ?_
  go_ret;obtain⟨hP,hg,d,v⟩:=HR.o;rw[<-E.o] at d;exact⟨g3,s3,ae,hP,hg,d,v,hF⟩)
def Ln(x:GT)(t:Pl×(cV×Int)):GT×(cV×Int):=
 if t.2.2≠0 then({x with s:=t.1},(fN,vF t.2.2)) else({x with s:=t.1},(t.2.1,0))
def IC(x:GT)(i:Int)(v:du×Int):GT×(cV×Int):=
 if v.2≠0 then(x,(fN,v.2)) else Ln x (qF x.s v.1.cO i)
def vr(cT:fM)(i:Int)(x:GT):GT×(cV×Int):=if x.s.dv.df=cx then(x,(fN,42)) else IC x i (tH x.b cT i)
def aeN(h:fi b)(cT:fM)(i:Int):vj (tH b cT i).1:=by unfold tH;simp only;split;exact o7;split;exact o7;split;exact o7;exact Vu h.ok _
def ID(U D:Nat)(x:GT)(r:Gy x)(cT:fM)(N:cT.size<=140737488355328)(i:Int)(w:cS)(h:fJ w U D x):
 CP_ 13 #[.pointer (some ⟨U,0,none⟩),.string cT,.int .i64 i] w λe w'=>∃B,e=.returned (.tuple #[.agg B,.int .i64 (vr cT i x).2.2])/\B=cM 128 (di (vr cT i x).2.1)/\fJ w' U D (vr cT i x).1/\Fr (some D) [] w w':=by
 obtain⟨G,g,M,h,u,j⟩:=h;have b:=cz j;obtain⟨s,Z⟩:=dG x.s;rw[Z] at h u;obtain rfl:=u;have S:=St.start w (some D) [] (kg U G g D M s) h.x;have E:=cz λW(X:tY W U G g D M s)=>Cg U G D M g s W X;have CP:=cz λW(X:dZ W G g D M s)=>mL G D M g s W X;have C2:=cz λW(X:dZ W G g D M s)=>lS G D M g s r.text.fit W X;have F:=cz λ(c:dY)(B:gJ)(l:B=cM 2 (dO c))(hc:c.t=g.b.t)W(R:jd W c)=>(show CP_ 47 #[.agg B,.string cT,.int .i64 i] W λe w'=>∃B,e=.returned (.tuple #[.agg B,.int .i64 (tH g.b.t cT i).2])/\ze w' W.heap.size B (tH g.b.t cT i).1/\dS W w' from by rw[<-hc];exact H7 c B l (by rw[hc];exact r.text.fit) cT N i W R);have q:=cz λ(y:dL)(f:dD y.cO)W X=>U3 g.P D M s y.cO f i W X;have J:=cz (aeN r.text cT i).2.2.1;have a:=cz (show vr cT i (g.gt s)=if s.dv.df=true then(g.gt s,(fN,42)) else IC (g.gt s) i (tH g.b.t cT i) from rfl);obtain⟨T,L⟩:=dG (vr cT i (g.gt s));obtain⟨v,C⟩:=dG (tH g.b.t cT i);obtain⟨dd,n⟩:=dG s.dv.df;rw[show(g.gt s).b=g.b.t from rfl,C] at J;rw[L,C,n] at a;rw[L];rw[C] at F;rw[n] at E;obtain⟨t0,V⟩:=v;unfold IC at a;simp only at F J a;have H0:=cz h.row;clear h Z L C n r j;go_enter func13,ntmps13;cases dd with
 |true=>
  rw[c8 rfl] at a
  go_wp2_with first|(go_at_call 46;refine mG (E.o _ S.x.at) ?_;)|(refine mu ?_;rw[a.o];exact⟨_,rfl,rfl,⟨G,g,M,S.x.at,rfl,b.o⟩,S.fr⟩)|refine fO ?_|refine fu λW S=>?_
 |false=>
  rw[cX kM] at a
  go_upto_region 4 with(first|(go_at_call 46;refine mG (E.o _ S.x.at) ?_;)|((with_reducible refine aQ_ ?_);refine zw (v:=dF G 0) (cL.cell S.x.2 (i:=0) cN) ?_)|(go_at_call 43;refine A7 S (C2.o _ S.x.at.Hz) λW B z HB HC _ S=>?_)|(go_at_call 47;refine(F.o z B HB.o HC.o _ ⟨S.q0,λx r=>(S.x.2 x r).1⟩).mono ?_;rintro e Q ⟨B2,rfl,⟨y,l,hy,-⟩,hb⟩;have a2:=cz l;have O:=cz hy;replace S:=S.cP hb;clear l hy)|refine fu λW S=>?_)
  by_cases g2:V=0
  case neg=>
   have g3:(V !=0)=true:=fK.2 g2;rw[c8 g2] at a;clear g2
   go_wp2_with first|(refine mu ?_;rw[a.o];exact⟨_,rfl,rfl,⟨G,g,M,S.x.1.at,rfl,b.o⟩,S.fr⟩)|refine fO ?_|refine fu λW S=>?_
  subst g2;rw[cX (show¬((0:Int)≠0) from λh=>h rfl),<-O.o] at a;have f:dD y.cO:=by have Y:=J.o;rw[<-O.o] at Y;exact Y
  have q:=cz (q.o y f);obtain⟨t,p⟩:=dG (qF s y.cO i);rw[show y.todu.cO=y.cO from rfl,show(g.gt s).s=s from rfl,p] at a;rw[p] at q;obtain⟨s1,a3,c⟩:=t;unfold Ln at a;simp only at q a;obtain⟨AQ,k⟩:=fU (cM 3 (dE y.cO));rw[dk k] at q;have H:=cz k;clear f p k
  go_upto_region 6 with(fail)
  refine eR S dC [⟨Q.heap.size,109,11,iz y⟩] Cz λW S=>?_;refine dh 0 _ ?_;refine dh 1 (dF U 0) ?_;refine dh 2 (dF U 0) ?_;refine ij 3 (dF G 0) rfl (gW (λw h=>cL.cell (cL.fr H0.o h.fr (.inr rfl) (.inr eQ)) (i:=0) cN) rfl Zv) ?_;refine dh 5 (dF Q.heap.size 7) ?_;refine ij 6 (.agg AQ) rfl (yKn (λw h=>h.row 0 rfl) (o:=7) (m:=3) rfl (dE y.cO) (show 7+3<=11 by decide) (wq y) H.o fL) ?_;refine dh 7 _ ?_
  repeat' first|refine Th ?_|refine nz 9 _ ?_|refine nz 10 (.agg B3) ?_|refine nz 11 (.int .i64 c) ?_|refine nz 14 _ ?_|refine Bt 4 12 (λK d=>?_) λK d=>?_|refine Bt 8 12 (λK d=>?_) λK d=>?_|refine qf 4 λK d=>?_|refine qf 12 λK d=>?_|refine qf 8 λK d=>?_|refine qf 13 λK d=>?_|(go_wp2_with fail;refine mG (CP.o _ S.x.1.at.Hz) ?_;refine gy d ?_)|(refine gu S zeroValue36 vW rfl λa1 W S=>?_;refine gy d ?_)|(go_wp2_with fail;refine(q.o _ S.x.1.at.Hz.kB).mono ?_;rintro e W ⟨B3,rfl,l,hp,A⟩;have I:=cz l;replace S:=(S.call (X':=λB w=>zp U G g D M s1 B w/\oL z.l B w) A (λD e=>e) eQ ((kg U G g D M s1).still (jy z.l)) (λB h=>⟨⟨h.1.1.pl A eQ hp,cL.fr h.1.2 A (.inr rfl) (.inr eQ)⟩,(jy z.l).fr h.2 A⟩));clear l;refine gy d ?_)|(refine km S 0 rfl rfl rfl I.o Dx (jP _) λW S=>?_;refine gy d ?_)
  all_goals(
   refine cz ?_;by_cases g2:c=0
   case neg=>
    have g3:(c !=0)=true:=fK.2 g2;rw[c8 g2] at a;clear g2
    go_wp2_with first|(go_at_call 49;refine(sI c _).mono ?_;rintro e W ⟨rfl,rfl⟩;)|(refine mu ?_;rw[a.o];exact⟨_,rfl,rfl,⟨G,g,M,S.x.1.at,rfl,b.o⟩,S.fr⟩)|refine fO ?_|refine fu λW S=>?_
   subst g2;rw[cX (show¬((0:Int)≠0) from λh=>h rfl)] at a
   go_wp2_with first|(refine mu ?_;rw[a.o];exact⟨_,rfl,rfl,⟨G,g,M,S.x.1.at,rfl,b.o⟩,S.fr⟩)|refine fO ?_|refine fu λW S=>?_
   )
theorem St.aha{D M:Nat}{g:iV}{b n:Nat}{f:Nat->c7}(S:St w (cu D) [K] [⟨b,118,n,f⟩] [] (λB w=>zp K G g D M s B w/\qK G2 g2 D M2 s B w) w1)(m:(w.h.s<=G2/\w.h.s<=g2.P/\w.h.s<=M2)/\K<w.h.s/\G<w.h.s/\g.P<w.h.s/\M<w.h.s)(t:g3.P=g2.P)(j:dZ w2 G2 g3 D M2 s2)(h:Fr (cu D) [G2,M2,g2.P] w1 w2):
 St w (cu D) [K] [⟨b,118,n,f⟩] [] (λB w=>zp K G g D M {s with dv:=s2.dv} B w/\qK G2 g3 D M2 s2 B w) w2:=by
 obtain⟨⟨v,x,y⟩,o,p,q,r⟩:=m;have a:∀k,k<w.h.s->k∉ [G2,M2,g2.P]:=λk c u=>by grind
 have d:=dZ.beside S.x.1.1.at j h (a G p) (a M r) (a _ q);have l:cL w2 b 118 n f:=cL.fr S.k0 h ax aD;have i:∀k∈eM [⟨b,118,n,f⟩] [],k=b:=λk c=>by grind[eM]
 refine S.Nn h aw (λk c=>?_) ((kg K G g D M _).and (iB G2 g3 D M2 s2)) ⟨⟨d.xB λk c=>?_,cL.fr S.x.1.2 h ax (.inr (a K o))⟩,j.xB λk c=>?_⟩;grind;rw[i k c,cL.ty l];grind;rw[i k c,cL.ty l];grind
def zp.swap{D:Nat}{f:Nat->c7}(c:cL w K 101 1 f)(b:qK G2 g3 D M2 s2 B w)(j:jZ K w w2)(d:cL w2 K 101 1 (λ_=>bW (cu ⟨G2,0,cw⟩))):zp K G2 g3 D M2 s2 B w2:=by have e:Fr cw [K] w w2:=Fr.rO j (cL.ty c) ae (fS.2 ae);have g:G2∉ [K]:=λa=>rE (cL.ty b.1.1.2) (cL.ty c) kM (fS.1 a);have i:g3.P∉ [K]:=λa=>rE (cL.ty b.1.1.1.row) (cL.ty c) kM (fS.1 a);have h:M2∉ [K]:=λa=>rE (cL.ty b.1.1.1.map) (cL.ty c) kM (fS.1 a);exact⟨b.pl e g (fh.fr b.1.1.1 e i h),d⟩
def St.ZK{D M:Nat}{g:iV}(S:St w (cu D) [K] L [] (λB w=>zp K G g D M s B w/\qK G2 g3 D M2 s2 B w) w1)(a:jZ K w1 w2)(b:cL w2 K 101 1 (λ_=>bW (cu ⟨G2,0,cw⟩))):
 St w (cu D) [K] L [] (zp K G2 g3 D M2 s2) w2:=
 S.wrote S.x.1.2 ae a (.inl (fS.2 ae)) (kg K G2 g3 D M2 s2) (zp.swap S.x.1.2 S.x.2 a b)
def o8(K D:Nat)(x:GT)(F:Gy x)(k:GT->GT×Int)(z:Nat)(Y:gJ)(H:∀args w,(callFunc z args).run prog w=.ok (.enter z args) w)(w:cS)(h:fJ w K D x)(hc:∀G M g W,Fr (cu D) [K] w W->dZ W G g D M x.s->g.gt x.s=x->CP_ z (#[bV (cM 1 λ_=>bW (cu ⟨G,0,cw⟩))]++Y) W λe V=>zm W V G D M g (k x) e):
 CP_ 50 #[bW (cu ⟨K,0,cw⟩),.func (.func z) #[] Y] w λe w'=>e=cj (bU cq (dX x k).2)/\fJ w' K D (dX x k).1/\Fr (cu D) [K] w w':=by
 obtain⟨G,g,M,h,a,o⟩:=h;have b:=cz o;clear o;obtain⟨s,O⟩:=dG x.s;rw[O] at h a hc;have d:g.b.t=x.b:=by rw[<-a];rfl
 have J:g.dI=x.dI:=by rw[<-a];rfl
 have S:=St.start w (cu D) [K] (kg K G g D M s) h.x;have Q:=cz λW(X:tY W K G g D M s)=>Cg K G D M g s W X;have R:=cz λW(X:dZ W G g D M s)=>DZ G D M g s (by rw[d];exact F.text.fit) (by rw[J];exact ik F.qD bB) W X;have H:=cz λG2 M2 g2(A:gJ)(N:A=cM 1 λ_=>Value.pointer (cu ⟨G2,0,cw⟩))W d X(l:g2.gt s=g.gt s)=>(show CP_ z (#[bV A]++Y) W λe V=>zm W V G2 D M2 g2 (k x) e from by rw[N];exact hc G2 M2 g2 W d X (l.trans a));have f:=cz (show dX x k=if s.dv.df=cx then(x,42) else r9 x (k x) from by rw[<-O];rfl);obtain⟨T,Z⟩:=dG (dX x k);obtain⟨r,u⟩:=dG (k x);obtain⟨V,t⟩:=dG s.dv.df;rw[Z,u,t] at f;rw[Z];rw[u] at H;rw[t] at Q;have U:=cz O;have q:=cz a;have I:=cz h;clear h O a hc d J Z u t F;go_enter func50,ntmps50;cases V with
 |true=>rw[c8 ae] at f;go_wp2_with (first|(refine(Q.o _ S.x.at).mono ?_;rintro e W ⟨rfl,rfl⟩;));go_ret;rw[f.o];exact⟨ae,⟨G,g,M,by rw[U.o];exact S.x.at,by rw[U.o];exact⟨q.o,b.o⟩⟩,S.fr⟩
 |false=>
  rw[cX bB] at f;obtain⟨y,c⟩:=r;obtain rfl:=q.o;clear q U;go_upto_region 5 with(first|refine jr 16 118 5 S 0 J.o ?_|(first|refine jb 5 118 S zeroValue118 ZI λW S=>?_|refine js 118 5 14 S 0 J.o bI λW S=>?_)|(refine(Q.o _ S.x.at).mono ?_;rintro e W ⟨rfl,rfl⟩;)|refine zw (cL.cell S.x.2 (i:=0) cN) ?_|(refine(R.o _ S.x.at.Hz).mono ?_;rintro e W ⟨G2,g2,M2,rfl,B,E,C,l,a,d⟩;have U:=cz (And.intro (And.intro B (And.intro E C)) (And.intro (cL.lt I.o.row) (And.intro (cL.lt I.o.Hz.row) (And.intro (cL.lt I.o.Hz.kB.row) (cL.lt I.o.Hz.kB.map)))));have m:=cz a;replace S:=(S.cP d).Vx ((kg K G g D M s).and (iB G2 g2 D M2 s)) ⟨(S.cP d).x,l.x⟩;clear B E C l a d;obtain⟨A,N⟩:=fU (cM 1 (λ_=>Value.pointer (cu ⟨G2,0,cw⟩)));have J:=cz N;clear N)|refine lE (cells:=A) ae (by rw[J.o];kernel_rfl) ?_|(show Calls _ _ _ _ _;refine(H.o G2 M2 g2 A J.o _ S.fr S.x.2.at m.o).mono ?_;rintro e F F;have v:=cz F;clear F;obtain⟨g3,J,rfl,H,l,n,F,I⟩:=v.o;clear v;have p:=cz n;have R:=cz F;clear F;have hS:=S.aha U.o H l I;clear S H l I n;have S:=hS;clear hS));by_cases L:c=0;case neg=>(have F:(c !=0)=cx:=fK.2 L;unfold r9 at f;rw[c8 L] at f;clear L;go_wp2;go_ret;rw[f.o];have F:J.dv=y.s.dv:=by rw[<-p.o];rfl);have H:=S.x.1.at;rw[F] at H;exact⟨ae,⟨G,g,M,H,ae,b.o⟩,S.fr⟩
  subst L;unfold r9 at f;rw[cX aI] at f;obtain rfl:=p.o;clear p;go_wp2_with (first|refine jl 23 69 22 S 0 0 (bW (cu ⟨G2,0,cw⟩)) ?_|(have F:=S.x.1.2;have l:∀j,j<1->(λ_=>Value.pointer (cu ⟨G2,0,cw⟩):Nat->c7) j=if j=0 then Value.pointer (cu ⟨G2,0,cw⟩) else(λ_=>Value.pointer (cu ⟨G,0,cw⟩):Nat->c7) j:=λj H=>(c8 (show j=0 from Nat.lt_one_iff.1 H)).symm;refine aeD F 0 cN ae ae ae Zv (λ_=>Value.pointer (cu ⟨G2,0,cw⟩)) l ?_;clear F l;intro F d u;replace S:=S.ZK d u;clear d u));go_ret;rw[f.o];exact⟨ae,⟨G2,g3,M2,S.x.at,ae,R.o (by rw[show g2.dI=g.dI from gQ GT.dI m.o];exact b.o)⟩,S.fr⟩
def zq(st:Nat->Nat)(l:List Int):Nat->Nat:=l.foldl (λst i=>sO st i 1 2) st
theorem Vz(st:Nat->Nat){l:List Int}(a:k<l.n):zq st (l.take (k+1))=sO (zq st (l.take k)) l[k] 1 2:=by grind[zq,take_succ_eq_append_getElem]
def abZ{l:List Int}{b n c M:Nat}(h:eU .i64 w (.slice (some ⟨b,0,none⟩) n c) l)(f:jZ M w w')(q:b≠M):eU .i64 w' (.slice (some ⟨b,0,none⟩) n c) l:=by obtain⟨g,cap,a,i,k,m⟩:=h;refine⟨g,cap,a,i,k,λd=>?_⟩;obtain⟨s,o,e,h6,p⟩:=m d;rw[e] at a;simp only[lX,yq,Addr.mk.injEq] at a;obtain⟨⟨rfl,rfl,-⟩,-,-⟩:=a;exact⟨b,0,e,pK h6 f.size,λj r=>(show w'.cell? ⟨b,0+j,none⟩=w.cell? ⟨b,0+j,none⟩ from by simp[World.cell?,f.block b h6 q]).trans (p j r)⟩
def VA(set:List (Int×Int))(v:c7)(M:Nat)(st:Nat->Nat)(w:cS)(Q:fj w v set)(g:fD w M st):
 CP_ 123 #[v,.func (.func 124) #[bW (cu ⟨M,0,cw⟩)] #[]] w λe w'=>e=cj (cg #[])/\fD w' M (zq st (nW set))/\Fr cw [M] w w':=by
 have eg:∀args w,(callFunc 124 args).run prog w=.ok (.enter 124 args) w:=enters_of func124 dC ae;have U:=cz g;have E:=cz (acN v set w Q);have R:=cz adv;have m:=cz (show∀x∈nW set,eT x from λx q=>by
  unfold nW at q;obtain⟨y,-,rfl⟩:=gT.1 q;have:=y.isLt;unfold eT;omega)
 obtain⟨l,N⟩:=dG (nW set);rw[N] at E m|-;have A:=cz (fD.lt g);clear g Q N;go_enter func123,ntmps123;go_upto_region 1 with(go_at_call 172;refine E.o.mono ?_;rintro e W ⟨r,rfl,K,⟨b,n,c,rfl,p⟩,B⟩;have G:=cz K;have t:=cz p;have F:=cz B;clear K p);obtain⟨rfl,O⟩:n=l.n/\l.n<=9223372036854775807:=by obtain⟨V,cap,f,s,-⟩:=G.o;simp only[lX] at f;exact⟨f.2.1,s⟩
 have C:Hid (b≠M):=cz (by have f:=t.o;have s:=A.o;omega);go_loopw [9] (λi wr=>∃k:Nat,k<=l.n/\i=bU cq k/\Hid (fD wr M (zq st (l.take k))/\eU cq wr (bX (s_ b 0) l.n c) l/\Fr cw [M] w wr)) (λi _=>l.n-(intOf i).m);exact⟨0,cN,ae,cz ⟨U.o.cP F.o,G.o,Fr.Er F.o _⟩⟩;obtain⟨k,L,rfl,hS⟩:=hrel;by_cases a:k<l.n
 . have d:Hid (wr.cell? ⟨b,k,cw⟩=cu (.int cq l[k])):=cz (by
    obtain⟨V,cap,f,s,J,X⟩:=hS.o.2.1;obtain⟨b',o,Y,h6,Z⟩:=X (by intro h;rw[h] at a;exact absurd a eQ);rw[Y] at f;simp only[lX,yq,Addr.mk.injEq] at f;obtain⟨⟨rfl,rfl,-⟩,-,-⟩:=f;rw[<-Z k a];simp)
   have I:=cz (m.o l[k] (mP a));have H:=cz (Vz st a);obtain⟨x,q⟩:=dG (l[k]);rw[q] at d I H;clear q;have u:=cz a;go_wp2_with (first|((with_reducible refine xC 12 3 11 ?_);refine jF (by simpa using d.o) ae Dy ?_)|(show Calls _ _ _ _ _;refine aj (R.o M _ x I.o _ hS.o.1) λW2⟨g,B⟩=>?_;have z:=cz g;have j:=cz B;clear g));go_roundw;exact⟨k+1,cN,by go_num,cz ⟨by rw[H.o];exact z.o,abZ hS.o.2.1 j.o C.o,hS.o.2.2.step (Fr.rO j.o (cL.ty hS.o.1) ae (fS.2 ae)) (λD e=>by cases e) (λk L=>.inl L)⟩⟩;have:=u.o;simp[intOf];omega
 . obtain rfl:k=l.n:=cN;have T:=cz (show l.take l.n=l from qp);go_wp2;refine FW (vQ ae _ _ _) ae ?_;obtain⟨f,s,J⟩:=hS.o;rw[T.o] at f;exact⟨ae,f,J⟩
def gM(d:Dv):GT:=⟨⟨1,[]⟩,[],lR,⟨d,pR d.n,1,0⟩⟩
def jJ(d:Dv):GT×Int:=if(d.n:Int)<64 then(gM d,191) else iS (gM d)
def NC:fi ⟨1,[]⟩:=⟨by decide,⟨by simp,λt h=>absurd h jL⟩,λs h=>absurd h jL⟩
def aeO(w:cS)(base D:Nat)(x:GT)(c:Int)(v:c7):Prop:=
 (c=0->∃G g M,v=bW (cu ⟨G,0,cw⟩)/\base<=G/\base<=g.P/\base<=M/\dZ w G g D M x.s/\g.gt x.s=x/\fQ g.dI)/\(c≠0->v=bW cw/\iQ w D x.s.dv)
def Pe(D:Nat)(d:Dv)(ho:d.ops<=990000000)(w:cS)(a:iQ w D d):
 CP_ 93 #[bW (cu ⟨D,0,cw⟩)] w λe w'=>∃v,e=cj (cg #[v,bU cq (jJ d).2])/\aeO w' w.h.s D (jJ d).1 (jJ d).2 v/\Fr (cu D) [] w w':=by
 have S:=St.start w (cu D) [] (gj D d) a;have R:d.n<=1024:=by obtain⟨_,F,Z,pv,f⟩:=a;exact f.qD
 have A:=cz λW(X:iQ W D d)=>Ag D d W X;have E:=cz λW(i:w.h.s<=W.h.s)=>(Rn (d.n:Nat) aW W).mono λe w'(l:_/\_/\_)=>(show∃k,e=cj (dF k 0)/\w.h.s<=k/\fD w' k (pR d.n)/\dS W w' from⟨_,l.1,i,l.2.1,l.2.2⟩);have L:=cz λM2 W(i:w.h.s<=W.h.s)=>(zR D M2 1 0 W).mono λe w'(l:_/\_/\_)=>(show∃k,e=cj (dF k 0)/\w.h.s<=k/\mb w' k D M2 1 0/\dS W w' from⟨_,l.1,i,l.2.1,l.2.2⟩);have M:=cz λG m M2 W(X:dZ W G ⟨m,⟨1,[],cw,0⟩,[],cw,0,lR⟩ D M2 (gM d).s)=>Fy G D M2 ⟨m,⟨1,[],cw,0⟩,[],cw,0,lR⟩ (gM d).s NC dU eQ ho W X;obtain⟨n,j⟩:=dG d.n;have q:=cz (show jJ d=if(n:Int)<64 then(gM d,191) else iS (gM d) from by rw[<-j];rfl);obtain⟨T,J⟩:=dG (jJ d);rw[J] at q|-;obtain⟨y,c⟩:=T;rw[j] at A E R;clear a J ho;go_enter func93,ntmps93;by_cases f:(n:Int)<64;case pos=>rw[c8 f] at q;have O:decide ((n:Int)<64)=cx:=gI f;clear f;go_wp2_with (refine mG (A.o _ S.x) ?_;);go_ret2;obtain⟨rfl,rfl⟩:=Prod.mk.inj q.o;exact⟨_,ae,⟨λh=>absurd (show(191:Int)=0 from h) kM,λ_=>⟨ae,S.x⟩⟩,S.fr⟩
 rw[cX f] at q;have O:decide ((n:Int)<64)=cy:=jC f;clear f;have C:=cz j;clear j;go_upto_region 5 with(first|refine mG (A.o _ S.x) ?_|(refine ah (E.o _ S.fr.size) λM2 W⟨t,p,i⟩=>?_;have r:=cz t;have V:=cz p;replace S:=(S.cP i).wM p ae;clear p i t)|(refine ah (L.o M2 _ S.fr.size) λm W⟨u,p,i⟩=>?_;have s:=cz u;replace S:=(S.cP i).wM p ae;clear p i u)|((with_reducible refine BY 14 99 ?_);refine lE (cells:=#[bU ct 1,bX cw 0 0]) ae dC ?_)|refine lE (cells:=cM 11 (wu ⟨m,⟨1,[],cw,0⟩,[],cw,0,lR⟩)) ae dC ?_|refine Ns S rfl rfl rfl λG W H S=>?_|(refine(M.o G m M2 _ ⟨S.x.2,⟨S.x.1.2,S.x.1.1.1,by rw[show(gM d).s.mp=pR n from by rw[<-C.o];rfl];exact S.x.1.1.2,⟨(show(1:Nat)<18446744073709551616 by decide),(show(0:Nat)<18446744073709551616 by decide)⟩⟩,⟨dg.nil _ _ _,λx U=>absurd U jL⟩,dg.nil _ _ _⟩).mono ?_;rintro e W ⟨g2,s2,rfl,I,o,b,g,Q⟩;have F:=S.fr.step Q aw (λk K=>by simp only[iX,jL,uH] at K;rcases K with rfl|rfl|rfl;exact .inr H;exact .inr r.o;exact .inr s.o);have N:=cz I;clear I;rw[show(iV.gt ⟨m,⟨1,[],cw,0⟩,[],cw,0,lR⟩ (gM d).s)=gM d from ae,<-q.o] at b|-));by_cases g3:c=0;case neg=>have Y:(c !=0)=cx:=fK.2 g3;have B:=cz g3;have z:=cz (And.intro o b);clear g3 o b g;go_wp2;go_ret2;exact⟨_,ae,⟨λh=>absurd h B.o,λ_=>⟨ae,by have f:=z.o.1.kB.dev;rw[show s2=y.s from by rw[<-show g2.gt s2=y from z.o.2];rfl] at f;exact f⟩⟩,F⟩
 subst g3;have z:=cz (And.intro o (And.intro b (g dU)));clear o b g;go_wp2;go_ret2;obtain⟨o,b,g⟩:=z.o;obtain rfl:g2.gt s2=y:=b;exact⟨_,ae,⟨λ_=>⟨G,g2,M2,ae,H,by rw[N.o];exact s.o,r.o,o,ae,g⟩,λh=>absurd ae h⟩,F⟩
end
def vt(d:Dv):GT:=⟨tJ,[],lR,⟨d,λ_=>0,0,0⟩⟩
noncomputable def Bk(u:qZ)(r:Pl×(ej×(List (Int×Int)×(List cQ×Int)))):GT×Int:=
 if r.2.2.2.2≠0 then(vt r.1.dv,r.2.2.2.2) else
 if 281474976710652<u.kJ∨281474976710652<r.2.1.next∨281474976710652<u.cR then(vt r.1.dv,192) else
 (⟨r.2.1,r.2.2.2.1,u,⟨r.1.dv,zq r.1.mp (nW r.2.2.1),iR u.cR,u.cR⟩⟩,0)
noncomputable def ye(d:Dv)(o:Option qZ):GT×Int:=
 if o.isSome=cy then(vt d,91) else
 if(o.getD lR).gx≠d.n then(vt d,91) else
 if(o.getD lR).len≠40 then(vt d,91) else
 Bk (o.getD lR) (jX ⟨d,pR d.n,0,0⟩ (o.getD lR).iG)
noncomputable def lZ(d:Dv):GT×Int:=if d.df=cx then(vt d,42) else ye (eZ d).1 (eZ d).2
section
variable {l:cV}
theorem St.aiT(S:St w0 d l L O X w)(t:dW)(g:∀r∈L,r.t≠t)(h:∀o∈O,o.e≠t):∀b∈eM L O,iy w b≠cu t:=by intro b c e;rcases iu.1 c with⟨r,f,rfl⟩|⟨o,ho,a⟩;rw[cL.ty (S.row r f).1] at e;grind;rw[uR (S.own o ho).1 a] at e;grind
def St.VB(S:St w0 d l L O X w){q:c7}(g:u9 w base c)(j:ir w base q ps)(m:∀r∈L,r.t≠109)(h:∀r∈L,r.t≠106)(n:∀o∈O,o.e≠109)(i:∀o∈O,o.e≠106):
 St w0 d l L O (λB w=>(X B w/\rU c.sv c.l B w)/\yQ 106 3 q ps.n (iZ ps) B w) w:=
 (S.DH (fP c.sv c.l) ⟨⟨dg.j8 g.1,λf b a e=>S.aiT 109 m n b e (dg.ty (dg.j8 g.1) a f)⟩,
  λx k=>⟨(g.2 x k).1,λf b a e=>S.aiT 106 h i b e (dg.ty (g.2 x k).1 a f)⟩⟩).DH (fF 106 3 q _ _ ae ae) ⟨dg.j8 j,λf b a e=>S.aiT 106 h i b e (dg.ty (dg.j8 j) a f)⟩
end
section
attribute[local irreducible]wpList Code.wp Calls Oper.wp wpAnyH
def Pf(D:Nat)(d:Dv)(w:cS)(a:iQ w D d):
 CP_ 60 #[bW (cu ⟨D,0,cw⟩)] w λe w'=>∃v,e=cj (cg #[v,bU cq (lZ d).2])/\aeO w' w.h.s D (lZ d).1 (lZ d).2 v/\Fr (cu D) [] w w':=by
 have S:=St.start w (cu D) [] (gj D d) a;have C1:=cz λW(X:iQ W D d)=>Lh D d W X;have C2:=cz λW(X:iQ W D d)=>Hg D d W X;obtain⟨T,hT⟩:=dG (lZ d);have f:=cz (show(if d.df=cx then(vt d,42) else ye (eZ d).1 (eZ d).2)=T from by rw[<-hT];rfl);have F:=(r7 d a.1.nw).2.2;obtain⟨H,I⟩:=dG ((eZ d).1);obtain⟨o,ho⟩:=dG ((eZ d).2);obtain⟨dd,J⟩:=dG d.df;rw[hT];rw[I,ho,J] at f;rw[I,ho] at C2;rw[J] at C1;rw[ho] at F;clear a hT I ho J;go_enter func60,ntmps60;cases dd with
 |true=>rw[c8 rfl] at f;go_wp2_with (go_at_call 82;refine mG (C1.o _ S.x) ?_;);go_ret2;rw[<-f.o];exact⟨_,rfl,⟨λh=>absurd (show(42:Int)=0 from h) kM,λ_=>⟨rfl,S.x⟩⟩,S.fr⟩
 |false=>
  rw[cX kM] at f;obtain⟨u,hu⟩:=dG (o.getD lR);obtain⟨th,a8⟩:=dG o.isSome;unfold ye at f;rw[hu,a8] at C2 f;rw[hu] at F;have HU:=cz F;clear hu a8 F
  go_upto_region 4 with(first|(go_at_call 82;refine mG (C1.o _ S.x) ?_;)|(go_at_call 83;refine(C2.o _ S.x).mono ?_;rintro e z ⟨U,rfl,hU,hd,C⟩;have a1:=cz hU;replace S:=S.call C (λD e=>e) eQ (gj D H) (λB h=>hd);clear hU hd)|refine fu λW S=>?_)
  have Q:=cz λW(X:iQ W D H)=>Ag D H W X;obtain⟨n,HN⟩:=sV H.n;have b6:n<=1024:=by rw[<-HN.o];obtain⟨_,sb,nb,pv,h1⟩:=S.x;exact h1.qD
  rw[HN.o] at Q f;cases th with
  |false=>
   rw[c8 rfl] at f;obtain rfl:=f.o;refine eO S dC λW S=>?_;refine dh 0 _ ?_;refine dh 1 (bZ cx) ?_;refine dh 2 _ ?_;refine pP 3 ?_;refine pP 4 ?_;refine pP 5 ?_;refine pP 6 ?_;refine pP 7 ?_;refine dh 8 (bZ cx) ?_;refine dh 9 _ ?_;refine pP 10 ?_;refine pP 11 ?_;refine pP 12 ?_;refine dh 13 (bZ cx) ?_;refine qG ?_;go_wp2;go_ret2;exact⟨_,rfl,⟨λh=>absurd (show(91:Int)=0 from h) kM,λ_=>⟨rfl,S.x⟩⟩,S.fr⟩
  |true=>
   rw[cX kM] at f;by_cases q1:u.gx=n
   case neg=>
    have e1:((u.gx:Int)!=(n:Int))=cx:=by rw[fK];omega
    rw[c8 q1] at f;obtain rfl:=f.o;clear q1;refine eO S dC λW S=>?_;refine dh 0 _ ?_;refine dh 1 (bZ cy) ?_;refine dh 2 _ ?_;refine dh 3 (dF z.h.s 6) ?_;refine dh 4 (bU cq u.gx) ?_;refine dh 5 _ ?_;refine kK 6 λK g=>?_
    go_wp2_with fail
    refine mG (Q.o _ S.x) ?_;refine gy g ?_;refine dh 7 (bZ cx) ?_;refine dh 8 (bZ cx) ?_;refine dh 9 _ ?_;refine pP 10 ?_;refine pP 11 ?_;refine pP 12 ?_;refine dh 13 (bZ cx) ?_;refine qG ?_;go_wp2;go_ret2;exact⟨_,rfl,⟨λh=>absurd (show(91:Int)=0 from h) kM,λ_=>⟨rfl,S.x⟩⟩,S.fr⟩
   rw[cX (λh=>h q1)] at f;have e1:((u.gx:Int)!=(n:Int))=cy:=by rw[vL,q1]
   clear q1;by_cases q2:u.len=40
   case neg=>
    have e2:((u.len:Int) !=40)=cx:=by rw[fK];omega
    rw[c8 q2] at f;obtain rfl:=f.o;clear q2;refine eO S dC λW S=>?_;refine dh 0 _ ?_;refine dh 1 (bZ cy) ?_;refine dh 2 _ ?_;refine dh 3 (dF z.h.s 6) ?_;refine dh 4 (bU cq u.gx) ?_;refine dh 5 _ ?_;refine kK 6 λK g=>?_
    go_wp2_with fail
    refine mG (Q.o _ S.x) ?_;refine gy g ?_;refine dh 7 (bZ cy) ?_;refine dh 8 (bZ cy) ?_;refine dh 9 _ ?_;refine dh 10 (dF z.h.s 5) ?_;refine dh 11 (bU cq u.len) ?_;refine dh 12 (bZ cx) ?_;refine dh 13 (bZ cx) ?_;refine qG ?_;go_wp2;go_ret2;exact⟨_,rfl,⟨λh=>absurd (show(91:Int)=0 from h) kM,λ_=>⟨rfl,S.x⟩⟩,S.fr⟩
   rw[cX (λh=>h q2)] at f;have e2:((u.len:Int) !=40)=cy:=by rw[vL,q2];rfl
   clear q2;refine eO S dC λW S=>?_;refine dh 0 _ ?_;refine dh 1 (bZ cy) ?_;refine dh 2 _ ?_;refine dh 3 (dF z.h.s 6) ?_;refine dh 4 (bU cq u.gx) ?_;refine dh 5 _ ?_;refine kK 6 λK g=>?_
   go_wp2_with fail
   refine mG (Q.o _ S.x) ?_;refine gy g ?_;refine dh 7 (bZ cy) ?_;refine dh 8 (bZ cy) ?_;refine dh 9 _ ?_;refine dh 10 (dF z.h.s 5) ?_;refine dh 11 (bU cq u.len) ?_;refine dh 12 (bZ cy) ?_;refine dh 13 (bZ cy) ?_;refine qG ?_;have C4:=cz λW(p:w.h.s<=W.h.s)=>(Rn (n:Nat) (by unfold eT;omega) W).mono λe w'(l:_/\_/\_)=>(show∃k,e=cj (dF k 0)/\w.h.s<=k/\fD w' k (pR n)/\dS W w' from⟨_,l.1,p,l.2.1,l.2.2⟩);have C5:=cz λM2(a b:Nat)W(p:w.h.s<=W.h.s)=>(zR D M2 a b W).mono λe w'(l:_/\_/\_)=>(show∃k,e=cj (dF k 0)/\w.h.s<=k/\mb w' k D M2 a b/\dS W w' from⟨_,l.1,p,l.2.1,l.2.2⟩);have C6:=cz λy M2 W(X:fh W y D M2 ⟨H,pR n,0,0⟩)=>Is y D M2 ⟨H,pR n,0,0⟩ u.iG HU.o.2.2.1 W X;obtain⟨A,hA⟩:=fU (cM 3 (dE u.iG));rw[dk hA] at C6;have HA:=cz hA;obtain⟨r,hr⟩:=dG (jX ⟨H,pR n,0,0⟩ u.iG);rw[hr] at C6 f;obtain⟨s2,bk,sp,ps,c⟩:=r;simp only at C6;have a9:gU u.cR:=HU.o.2.1;have b4:=cz a9;obtain⟨n3,E⟩:=dG (iR u.cR);have w1:IntKind.u64.wrap ((u.cR:Int)+1)=((n3:Nat):Int):=by rw[<-E];exact wH _
   unfold Bk at f;simp only at f;rw[E] at f;have b1:=cz (show gU n3 by rw[<-E];exact Ds _);clear hA hr a9 E
   go_upto_region 7 with(first|(go_at_call 84;refine mG (Q.o _ S.x) ?_;)|(go_at_call 86;refine(C4.o _ S.fr.size).mono ?_;rintro e W ⟨M2,rfl,a2,t,p⟩;have Y:=cz a2;replace S:=(S.cP p).wM t rfl;clear t p a2))
   refine eR S dC [⟨z.h.s,143,7,k7 u⟩] Cz λW S=>?_;refine dh 0 _ ?_;refine dh 1 _ ?_;refine dh 3 (dF z.h.s 2) ?_;refine ij 4 (bV A) rfl (yKn (λw h=>h.row 0 rfl) (o:=2) (m:=3) rfl (dE u.iG) (show 2+3<=7 by decide) (λi hi=>Dz i hi) HA.o fL) ?_
   repeat' first|refine Th ?_|refine nz 6 _ ?_|refine nz 7 (bV B) ?_|refine nz 8 (bX ra sp.n rc) ?_|refine nz 9 (bX qa ps.n qc) ?_|refine nz 10 (bU cq c) ?_|refine nz 13 _ ?_|refine nz 14 _ ?_|refine nz 15 _ ?_|refine Bt 2 11 (λK g=>?_) λK g=>?_|refine qf 2 λK g=>?_|refine qf 5 λK g=>?_|refine qf 12 λK g=>?_|refine Bt 5 11 (λK g=>?_) λK g=>?_|refine qf 11 λK g=>?_|(refine gu S sR ot rfl λE9 W S=>?_;refine gy g ?_)|(go_wp2_with fail;refine(C5.o M2 0 0 _ S.fr.size).mono ?_;rintro e W ⟨y,rfl,a3,t,p⟩;have b5:=cz a3;replace S:=((S.cP p).wM t rfl).EH (X':=CR y D M2 ⟨H,pR n,0,0⟩) (λB w h=>⟨h.2,h.1.1,h.1.2,⟨(show(0:Nat)<18446744073709551616 by decide),(show(0:Nat)<18446744073709551616 by decide)⟩⟩) (dR y D M2 _);clear t p a3;refine gy g ?_)|(go_wp2_with fail;refine(C6.o y M2 _ S.x).mono ?_;rintro e W ⟨B,r,q,rfl,⟨j,hB,hc,a6⟩,M,N,L,a7,hp,C⟩;have HB:=cz hB;have HC:=cz hc;have b3:=cz a7;have Z:=cz (And.intro (show∀x∈sp,eT x.1/\eT x.2 from by obtain⟨_,_,_,_,l,_⟩:=N;exact l) (show sp.n<=9223372036854775807 from by obtain⟨_,_,_,l,_⟩:=N;exact l));have R:=cz (dx M);have V:=cz (dx L);replace S:=(S.um C (λD e=>e) eQ (dR y D M2 s2) (λB h=>hp) M rfl rfl).VB a6 L eQ eQ eQ eQ;clear hB hc a6 M N L a7;obtain⟨ra,rc,rfl⟩:=R.o;obtain⟨qa,qc,rfl⟩:=V.o;clear R V;refine gy g ?_)|(refine km S 0 rfl rfl rfl HB.o nU (fW _) λW S=>?_;refine gy g ?_)
   all_goals(
    refine cz ?_;obtain rfl:=HC.o;clear HC;by_cases g2:c=0
    case neg=>
     have g3:(c !=0)=cx:=fK.2 g2;have s:=cz g2;rw[c8 g2] at f;obtain rfl:=f.o;clear g2;go_wp2;go_ret2;exact⟨_,rfl,⟨λh=>absurd h s.o,λ_=>⟨rfl,S.x.1.1.dev⟩⟩,S.fr⟩
    subst g2;rw[cX (show¬((0:Int)≠0) from λh=>h rfl)] at f;have s:Hid (¬(192:Int)=0):=cz kM;by_cases O:281474976710652<u.kJ
    case pos=>
     have i1:decide ((281474976710652:Int)<(u.kJ:Int))=cx:=gI cN;rw[c8 (.inl O)] at f;obtain rfl:=f.o;clear O
     go_wp2_with (with_reducible refine jl 50 82 49 S 1 0 (bU ct u.kJ) ?_)
     go_ret2;exact⟨_,rfl,⟨λh=>absurd h s.o,λ_=>⟨rfl,S.x.1.1.dev⟩⟩,S.fr⟩
    have i1:decide ((281474976710652:Int)<(u.kJ:Int))=cy:=jC cN;by_cases m2:281474976710652<j.next
    case pos=>
     have i2:decide ((281474976710652:Int)<(j.next:Int))=cx:=gI cN;rw[c8 (.inr (.inl m2))] at f;obtain rfl:=f.o;clear O m2
     go_wp2_with first|(with_reducible first|refine jl 50 82 49 S 1 0 (bU ct u.kJ) ?_|refine jm 54 82 53 S 0 0 (bU ct j.next) ?_)
     go_ret2;exact⟨_,rfl,⟨λh=>absurd h s.o,λ_=>⟨rfl,S.x.1.1.dev⟩⟩,S.fr⟩
    have i2:decide ((281474976710652:Int)<(j.next:Int))=cy:=jC cN;by_cases m3:281474976710652<u.cR
    case pos=>
     have i3:decide ((281474976710652:Int)<(u.cR:Int))=cx:=gI cN;rw[c8 (.inr (.inr m3))] at f;obtain rfl:=f.o;clear O m2 m3
     go_wp2_with first|(with_reducible first|refine jl 50 82 49 S 1 0 (bU ct u.kJ) ?_|refine jm 54 82 53 S 0 0 (bU ct j.next) ?_|refine jm 59 82 58 S 1 1 (bU ct u.cR) ?_)
     go_ret2;exact⟨_,rfl,⟨λh=>absurd h s.o,λ_=>⟨rfl,S.x.1.1.dev⟩⟩,S.fr⟩
    have i3:decide ((281474976710652:Int)<(u.cR:Int))=cy:=jC cN;rw[cX (λh=>h.elim O λh=>h.elim m2 m3)] at f;obtain rfl:=f.o;clear O m2 m3;have C7:=cz λv W hv(X:fD W M2 s2.mp)=>VA sp v M2 s2.mp W hv X
    go_upto_region 13 with(first|(with_reducible first|refine jl 50 82 49 S 1 0 (bU ct u.kJ) ?_|refine jm 54 82 53 S 0 0 (bU ct j.next) ?_|refine jm 59 82 58 S 1 1 (bU ct u.cR) ?_)|(go_at_call 123;refine(C7.o _ _ (uL S.o0 Z.o.1 Z.o.2) S.x.1.1.map).mono ?_;rintro e W ⟨rfl,t,C⟩;have a5:y≠M2:=rE (cL.ty S.x.1.1.row) (cL.ty S.x.1.1.map) kM;replace S:=S.call (X':=λB w=>(CR y D M2 {s2 with mp:=zq s2.mp (nW sp)} B w/\rU j.sv j.l B w)/\yQ 106 3 (bX qa ps.n qc) ps.n (iZ ps) B w) C (λD e=>by cases e) (λk hk=>.inr (by rw[fS.1 hk];exact Y.o)) (((dR y D M2 _).still (fP j.sv j.l)).still (fF 106 3 _ _ _ rfl rfl)) (λB h=>⟨⟨⟨cL.fr h.1.1.row C (.inl rfl) (.inr (λl=>a5 (fS.1 l))),h.1.1.dev.fr C,t,h.1.1.ok⟩,(fP j.sv j.l).fr h.1.2 C⟩,(fF 106 3 _ _ _ rfl rfl).fr h.2 C⟩);clear t a5))
    refine eR S dC [⟨E9,99,2,dO j⟩,⟨z.h.s,143,7,k7 u⟩] Cz λW S=>?_;refine dh 0 _ ?_;refine dh 1 _ ?_;refine dh 2 (dF z.h.s 1) ?_;refine dh 3 (bU ct u.cR) ?_;refine dh 4 (bU ct n3) ?_;refine dh 5 (dF z.h.s 1) ?_;refine dh 6 (bU ct u.cR) ?_;refine ij 8 (bV B) rfl (rA (λw h=>h.row 0 rfl) rfl HB.o nU) ?_;refine dh 9 _ ?_;refine ij 10 (bV U) rfl (rA (λw h=>h.row 1 rfl) rfl a1.o Fh) ?_;refine kK 7 λK g=>?_
    go_wp2_with fail
    refine(C5.o M2 n3 u.cR _ S.fr.size).mono ?_;rintro e W ⟨P3,rfl,a4,t,p⟩;have b2:=cz a4;replace S:=(S.cP p).wM t rfl;clear t p a4;refine gy g ?_;refine ij 11 (bV (cM 11 (wu ⟨P3,j,ps,qa,qc,u⟩))) rfl (yU rfl (by rw[HB.o,a1.o];kernel_rfl)) ?_;refine kK 12 λK g=>?_;refine Vo S rfl rfl rfl λG W hG S=>?_;refine gy g ?_;refine dh 13 _ ?_;refine dh 14 _ ?_;refine qG ?_;go_wp2;go_ret2;exact⟨_,rfl,⟨λ_=>⟨G,⟨P3,j,ps,qa,qc,u⟩,M2,rfl,hG,b2.o,Y.o,⟨S.x.2,⟨S.x.1.2,S.x.1.1.1.1.dev,S.x.1.1.1.1.map,⟨b1.o,b4.o⟩⟩,S.x.1.1.1.2.sl,S.x.1.1.2.1⟩,rfl,b3.o⟩,λh=>absurd rfl h⟩,S.fr⟩)
def VC(G D M:Nat)(g:iV)(s:Pl)(z:fi g.b.t)(Y:g.dI.length<=100000)(cT:fM)(L:cT.size<=140737488355328)(n:Int)(t j:Nat)(w:cS)(h:dZ w G g D M s)(v:cL w t 9 1 (λ_=>.string cT))(y:cL w j 3 1 (λ_=>.int .i64 n)):
 CP_ 76 (#[.agg (cM 1 λ_=>.pointer (some ⟨G,0,none⟩))]++ #[.pointer (some ⟨t,0,none⟩),.pointer (some ⟨j,0,none⟩)]) w λe w'=>zm w w' G D M g (my cT n (g.gt s)) e:=by
 show CP_ 76 #[.agg (cM 1 λ_=>dF G 0),dF t 0,dF j 0] w _;obtain⟨A,u⟩:=fU (cM 1 (λ_=>dF G 0));rw[<-u];have HA:=cz u;have S:=St.start w (some D) [G,M,g.P] (iB G g D M s) h.x;have U:=cz λW(X:dZ W G g D M s)=>An G D M g s A u z.fit W X;have Z:=cz λW(X:dZ W G g D M s)=>lS G D M g s z.fit W X;have C:=cz λ(c:dY)(B:gJ)(k:B=cM 2 (dO c))(hc:c.t=g.b.t)W(R:jd W c)=>(show CP_ 77 #[.agg B,.string cT,.int .i64 n] W λe w'=>∃B,e=.returned (.tuple #[.agg B,.int .i64 (iO g.b.t cT n).2])/\lV w' W.heap.size B (iO g.b.t cT n).1/\dS W w' from by rw[<-hc];exact MJ c B k (by rw[hc];exact z.fit) cT L n W R);have d:=CI z cT n;have f:=cz (show my cT n (g.gt s)=if 281474976710651<g.b.next then(g.gt s,192) else pI (g.gt s) (iO g.b.t cT n) from ae);obtain⟨T,I⟩:=dG (my cT n (g.gt s));obtain⟨r,N⟩:=dG (iO g.b.t cT n);rw[I,N] at f;rw[I];rw[N] at C d;obtain⟨H,c⟩:=r;simp only at C d;have C4:=cz λ(j:dY)(B:gJ)(k:B=cM 2 (dO j))(hc:j.t=H)W(X:dZ W G g D M s)R=>tZ G D M g s j B k (by rw[hc];exact d.fit) W X R;have C5:=cz λ(l:dY)(hc:l.t=H)W(X:dZ W G {g with b:=l} D M s)=>(show sW 57 #[.agg A] W (.int .i64 (Bj (rG (g.gt s) H))) from by rw[<-hc];exact zW G D M {g with b:=l} s A u (show fi l.t by rw[hc];exact d) W X (ik Y kM));have E:=cz v;have F:=cz y;clear h u z Y I N d v y;go_enter func76,ntmps76;by_cases m:281474976710651<g.b.next
 case pos=>rw[c8 m] at f;have dm:decide (281474976710651<g.b.next)=true:=gI m;clear m;go_wp2_with (first|refine je S (U.o _ S.x.at) λW S=>?_|refine fO ?_|refine fu λW S=>?_);go_ret;rw[f.o];exact aR
 rw[cX m] at f;have dm:decide (281474976710651<g.b.next)=false:=jC m;clear m;go_upto_region 3 with(first|refine je S (U.o _ S.x.at) λW S=>?_|refine fO ?_|refine fu λW S=>?_);refine eR S dC [⟨w.heap.size,118,1,λ_=>dF G 0⟩] Cz λW S=>?_;refine dh 0 (dF w.heap.size 0) ?_;refine dh 1 (dF G 0) ?_;refine ij 3 (.string cT) ae (gW (λw h=>cL.cell (cL.fr E.o h.fr ax aD) (i:=0) cN) ae Gr) ?_;refine ij 4 (.int .i64 n) ae (gW (λw h=>cL.cell (cL.fr F.o h.fr ax aD) (i:=0) cN) ae Dy) ?_;repeat' first|refine Th ?_|refine nz 6 _ ?_|refine nz 7 (.agg Q) ?_|refine nz 8 (.int .i64 c) ?_|refine nz 11 _ ?_|refine Bt 2 9 (λK a=>?_) λK a=>?_|refine qf 2 λK a=>?_|refine qf 5 λK a=>?_|refine qf 10 λK a=>?_|refine Bt 5 9 (λK a=>?_) λK a=>?_|refine qf 9 λK a=>?_|(refine gu S sR ot ae λE9 W S=>?_;refine gy a ?_)|(go_wp2_with fail;refine ah (Z.o _ S.x.at) λB W⟨⟨t,k,hc,ho⟩,J⟩=>?_;have HB:=cz k;have HC:=cz hc;replace S:=S.kq J ho;clear k hc;refine gy a ?_)|(go_wp2_with fail;refine ah (C.o t B HB.o HC.o _ ⟨S.q0,λx O=>(S.x.2 x O).1⟩) λQ W⟨⟨j,k,hc,ho⟩,J⟩=>?_;have o:=cz k;have p:=cz hc;replace S:=S.kq J ho;clear k hc;refine gy a ?_)|(refine km S 0 ae ae ae o.o nU (fW _) λW S=>?_;refine gy a ?_)
 all_goals(
  refine cz ?_;unfold pI at f;simp only at f;by_cases g2:c=0
  case neg=>
   have g3:(c !=0)=true:=fK.2 g2;rw[c8 g2] at f;clear g2;go_wp2;go_ret;rw[f.o];exact bM
  subst g2;rw[cX aI] at f
  go_wp2_with first|(refine ah (C4.o j Q o.o p.o _ S.x.1.1.at ⟨S.q0,λx O=>(S.x.2 x O).1⟩) λl W⟨hc,V,ho,hf⟩=>?_;have q:=cz (hc.trans p.o);replace S:=(S.EH (λB w h=>h.1.1) (iB G g D M s)).Yk V ho hf aZ;clear hc V)|refine je S (C5.o l q.o _ S.x.at) λW S=>?_|refine fO ?_
  go_ret;rw[f.o];exact⟨{g with b:=l},s,ae,ae,S.x.at,by unfold iV.gt rG;rw[<-q.o],id,S.fr⟩)
def Yp(G D M:Nat)(g:iV)(s:Pl)(z:fi g.b.t)(Z:g.dI.length<=100000)(cT a:fM)(L:cT.size<=140737488355328)(O:a.size<=140737488355328)(t k:Nat)(w:cS)(h:dZ w G g D M s)(v:cL w t 9 1 (λ_=>.string cT))(y:cL w k 9 1 (λ_=>.string a)):
 CP_ 96 (#[.agg (cM 1 λ_=>.pointer (some ⟨G,0,none⟩))]++ #[.pointer (some ⟨t,0,none⟩),.pointer (some ⟨k,0,none⟩)]) w λe w'=>zm w w' G D M g (qL cT a (g.gt s)) e:=by
 show CP_ 96 #[.agg (cM 1 λ_=>dF G 0),dF t 0,dF k 0] w _;obtain⟨A,u⟩:=fU (cM 1 (λ_=>dF G 0));rw[<-u];have HA:=cz u;have S:=St.start w (some D) [G,M,g.P] (iB G g D M s) h.x;have V:=cz λW(X:dZ W G g D M s)=>An G D M g s A u z.fit W X;have C2:=cz λW(X:dZ W G g D M s)=>lS G D M g s z.fit W X;have C:=cz λ(c:dY)(B:gJ)(l:B=cM 2 (dO c))(hc:c.t=g.b.t)W(R:jd W c)=>(show CP_ 97 #[.agg B,.string cT,.string a] W λe w'=>∃B,e=.returned (.tuple #[.agg B,.int .i64 (jA g.b.t cT a).2])/\lV w' W.heap.size B (jA g.b.t cT a).1/\dS W w' from by rw[<-hc];exact ON c B l (by rw[hc];exact z.fit) cT a L O W R);have f:=D0 z cT a;have j:=cz (show qL cT a (g.gt s)=if 281474976710651<g.b.next then(g.gt s,192) else pI (g.gt s) (jA g.b.t cT a) from ae);obtain⟨T,I⟩:=dG (qL cT a (g.gt s));obtain⟨r,N⟩:=dG (jA g.b.t cT a);rw[I,N] at j;rw[I];rw[N] at C f;obtain⟨H,c⟩:=r;simp only at C f;have C4:=cz λ(k:dY)(B:gJ)(l:B=cM 2 (dO k))(hc:k.t=H)W(X:dZ W G g D M s)R=>tZ G D M g s k B l am2 W X R;have C5:=cz λ(m:dY)(hc:m.t=H)W(X:dZ W G {g with b:=m} D M s)=>(show sW 57 #[.agg A] W (.int .i64 (Bj (rG (g.gt s) H))) from by rw[<-hc];exact zW G D M {g with b:=m} s A u (show fi m.t by rw[hc];exact f) W X (ik Z kM));have E:=cz v;have F:=cz y;clear h u z Z I N f v y;go_enter func96,ntmps96;by_cases n:281474976710651<g.b.next
 case pos=>rw[c8 n] at j;have dm:decide (281474976710651<g.b.next)=true:=gI n;clear n;go_wp2_with (first|refine je S (V.o _ S.x.at) λW S=>?_|refine fO ?_|refine fu λW S=>?_);go_ret;rw[j.o];exact aR
 rw[cX n] at j;have dm:decide (281474976710651<g.b.next)=false:=jC n;clear n;go_upto_region 3 with(first|refine je S (V.o _ S.x.at) λW S=>?_|refine fO ?_|refine fu λW S=>?_);refine eR S dC [⟨w.heap.size,118,1,λ_=>dF G 0⟩] Cz λW S=>?_;refine dh 0 (dF w.heap.size 0) ?_;refine dh 1 (dF G 0) ?_;refine ij 3 (.string cT) ae (gW (λw h=>cL.cell (cL.fr E.o h.fr ax aD) (i:=0) cN) ae Gr) ?_;refine ij 4 (.string a) ae (gW (λw h=>cL.cell (cL.fr F.o h.fr ax aD) (i:=0) cN) ae Gr) ?_;repeat' first|refine Th ?_|refine nz 6 _ ?_|refine nz 7 (.agg U) ?_|refine nz 8 (.int .i64 c) ?_|refine nz 11 _ ?_|refine Bt 2 9 (λK d=>?_) λK d=>?_|refine qf 2 λK d=>?_|refine qf 5 λK d=>?_|refine qf 10 λK d=>?_|refine Bt 5 9 (λK d=>?_) λK d=>?_|refine qf 9 λK d=>?_|(refine gu S sR ot ae λE9 W S=>?_;refine gy d ?_)|(go_wp2_with fail;refine ah (C2.o _ S.x.at) λB W⟨⟨t,l,hc,ho⟩,J⟩=>?_;have HB:=cz l;have HC:=cz hc;replace S:=S.kq J ho;clear l hc;refine gy d ?_)|(go_wp2_with fail;refine ah (C.o t B HB.o HC.o _ ⟨S.q0,λx Q=>(S.x.2 x Q).1⟩) λU W⟨⟨k,l,hc,ho⟩,J⟩=>?_;have o:=cz l;have p:=cz hc;replace S:=S.kq J ho;clear l hc;refine gy d ?_)|(refine km S 0 ae ae ae o.o nU (fW _) λW S=>?_;refine gy d ?_)
 all_goals(
  refine cz ?_;unfold pI at j;simp only at j;by_cases g2:c=0
  case neg=>
   have g3:(c !=0)=true:=fK.2 g2;rw[c8 g2] at j;clear g2;go_wp2;go_ret;rw[j.o];exact bM
  subst g2;rw[cX aI] at j
  go_wp2_with first|(refine ah (C4.o k U o.o p.o _ S.x.1.1.at ⟨S.q0,λx Q=>(S.x.2 x Q).1⟩) λm W⟨hc,Y,ho,hf⟩=>?_;have q:=cz (hc.trans p.o);replace S:=(S.EH (λB w h=>h.1.1) (iB G g D M s)).Yk Y ho hf aZ;clear hc Y)|refine je S (C5.o m q.o _ S.x.at) λW S=>?_|refine fO ?_
  go_ret;rw[j.o];exact⟨{g with b:=m},s,ae,ae,S.x.at,by unfold iV.gt rG;rw[<-q.o],id,S.fr⟩)
def SF(G D M:Nat)(g:iV)(s:Pl)(p:fi g.b.t)(cT:fM)(z:cT.s<=140737488355328)(m:Nat)(w:cS)(h:dZ w G g D M s)(o:cL w m 9 1 (λ_=>bY cT)):
 CP_ 98 (#[bV (cM 1 λ_=>bW (cu ⟨G,0,cw⟩))]++ #[bW (cu ⟨m,0,cw⟩)]) w λe w'=>zm w w' G D M g (lY cT (g.gt s)) e:=by
 show CP_ 98 #[bV (cM 1 λ_=>dF G 0),dF m 0] w _;obtain⟨A,L⟩:=yw (cM 1 (λ_=>dF G 0));rw[<-L.o];have S:=St.start w (cu D) [G,M,g.P] (iB G g D M s) h.x;have I:=cz λW(X:dZ W G g D M s)=>lS G D M g s p.fit W X;have q:=cz λ(c:dY)(B:gJ)(d:B=cM 2 (dO c))(hc:c.t=g.b.t)W(R:jd W c)=>(show CP_ 99 #[bV B,bY cT] W λe w'=>∃B,e=cj (cg #[bV B,bU cq (fT g.b.t cT).2])/\lV w' W.h.s B (fT g.b.t cT).1/\dS W w' from by rw[<-hc];exact K4 c B d (by rw[hc];exact p.fit) cT z W R);have f:=Bg p cT;have j:=cz (show lY cT (g.gt s)=if(fT g.b.t cT).2≠0 then(g.gt s,(fT g.b.t cT).2) else(rG (g.gt s) (fT g.b.t cT).1,0) from ae);obtain⟨T,v⟩:=dG (lY cT (g.gt s));obtain⟨r,C⟩:=dG (fT g.b.t cT);rw[v,C] at j;rw[v];rw[C] at q f;obtain⟨Q,c⟩:=r;simp only at q f j;have J:=cz λ(n:dY)(B:gJ)(d:B=cM 2 (dO n))(hc:n.t=Q)W(X:dZ W G g D M s)R=>tZ G D M g s n B d am2 W X R;have u:=cz o;clear h p v C f o;go_enter func98,ntmps98
 go_upto_region 1 with(refine fu λW S=>?_);refine eR S dC [⟨w.h.s,118,1,λ_=>dF G 0⟩] Cz λW S=>?_;refine dh 0 (dF w.h.s 0) ?_;refine dh 1 (dF G 0) ?_;refine ij 3 (bY cT) ae (gW (λw h=>cL.cell (cL.fr u.o h.fr ax aD) (i:=0) cN) ae Gr) ?_;repeat' first|refine Th ?_|refine nz 5 _ ?_|refine nz 6 (bV F) ?_|refine nz 7 (bU cq c) ?_|refine nz 10 _ ?_|refine Bt 2 8 (λK a=>?_) λK a=>?_|refine qf 2 λK a=>?_|refine qf 4 λK a=>?_|refine qf 9 λK a=>?_|refine Bt 4 8 (λK a=>?_) λK a=>?_|refine qf 8 λK a=>?_|(refine gu S sR ot ae λY W S=>?_;refine gy a ?_)|(go_wp2_with fail;refine ah (I.o _ S.x.at) λB W⟨⟨m,d,hc,ho⟩,y⟩=>?_;have N:=cz d;have O:=cz hc;replace S:=S.kq y ho;clear d hc;refine gy a ?_)|(go_wp2_with fail;refine ah (q.o m B N.o O.o _ ⟨S.q0,λx E=>(S.x.2 x E).1⟩) λF W⟨⟨n,d,hc,ho⟩,y⟩=>?_;have k:=cz d;have l:=cz hc;replace S:=S.kq y ho;clear d hc;refine gy a ?_)|(refine km S 0 ae ae ae k.o nU (fW _) λW S=>?_;refine gy a ?_)
 all_goals(
  refine cz ?_;by_cases g2:c=0
  case neg=>
   have g3:(c !=0)=cx:=fK.2 g2;rw[c8 g2] at j;clear g2;go_wp2;go_ret;rw[j.o];exact bM
  subst g2;rw[cX aI] at j
  go_wp2_with first|(go_at_call 55;refine ah (J.o n F k.o l.o _ S.x.1.1.at ⟨S.q0,λx E=>(S.x.2 x E).1⟩) λU W⟨hc,H,ho,V⟩=>?_;have t:=cz (hc.trans l.o);replace S:=(S.EH (λB w h=>h.1.1) (iB G g D M s)).Yk H ho V aZ;clear hc H)|refine fO ?_
  go_ret;rw[j.o];exact⟨{g with b:=U},s,ae,ae,S.x.at,by unfold iV.gt rG;rw[<-t.o],id,S.fr⟩)
theorem fh.next{P D M:Nat}(h:fh w P D M s)(d:mb w' P D M (iR s.cR) s.base)(b:jZ P w w'):fh w' P D M (tW s)/\Fr cw [P] w w':=by have a:Fr cw [P] w w':=Fr.rO b (cL.ty h.row) ae (fS.2 ae);exact⟨⟨d,h.dev.fr a,h.map.fr a (λc=>rE (cL.ty h.map) (cL.ty h.row) kM (fS.1 c)),⟨Ds _,h.ok.2⟩⟩,a⟩
def ab0(G D M:Nat)(g:iV)(s:Pl)(E:fi g.b.t)(hl:g.dI.length<=100000)(cT:fM)(V:cT.size<=140737488355328)(u:Nat)(w:cS)(h:dZ w G g D M s)(C:cL w u 9 1 (λ_=>.string cT)):
 CP_ 51 (#[.agg (cM 1 λ_=>.pointer (some ⟨G,0,none⟩))]++ #[.pointer (some ⟨u,0,none⟩)]) w λe w'=>zm w w' G D M g (vl cT (g.gt s)) e:=by
 show CP_ 51 #[.agg (cM 1 λ_=>dF G 0),dF u 0] w _;obtain⟨A,y⟩:=fU (cM 1 (λ_=>dF G 0));rw[<-y];have HA:=cz y;have S:=St.start w (some D) [G,M,g.P] (iB G g D M s) h.x;have N:=cz (qK.Pa h.x);have L:=cz λW s(X:dZ W G g D M s)=>mL G D M g s W X;have CQ:=cz λj W(X:dZ W G {g with b:=j} D M s)=>mL G D M {g with b:=j} s W X;have CN:=cz λW(X:mb W g.P D M s.cR s.base)=>Rr g.P D M s.cR s.base W X;have F:=cz λW(X:dZ W G g D M s)=>wG g.P D M s.cR s.base W X.kB.row;have I:=cz λW(X:dZ W G g D M s)=>An G D M g s A y E.fit W X;have C2:=cz λW(X:dZ W G g D M s)=>lS G D M g s E.fit W X;obtain⟨st,o⟩:=dG s.cR;have J:=cz λ(c:dY)(B:gJ)(l:B=cM 2 (dO c))(hc:c.t=g.b.t)W(R:jd W c)=>(show CP_ 54 #[.agg B,.string cT,.int .u64 st] W λe w'=>∃B,e=.returned (.tuple #[.agg B,.int .i64 (iH g.b.t cT st).2])/\lV w' W.heap.size B (iH g.b.t cT st).1/\dS W w' from by rw[<-hc];exact RQ c B l (by rw[hc];exact E.fit) cT V st W R);have f:=Fz E cT st;have a:=cz (show vl cT (g.gt s)=if 281474976710651<g.b.next∨281474976710651<st then(g.gt s,192) else if(iH g.b.t cT st).2≠0 then(g.gt s,(iH g.b.t cT st).2) else({rG (g.gt s) (iH g.b.t cT st).1 with s:=tW s},Bj {rG (g.gt s) (iH g.b.t cT st).1 with s:=tW s}) from by rw[<-o];rfl);obtain⟨T,U⟩:=dG (vl cT (g.gt s));obtain⟨r,Y⟩:=dG (iH g.b.t cT st);rw[U,Y] at a;rw[U];rw[Y] at J f;rw[o] at F;obtain⟨Q,c⟩:=r;simp only at J f a;have C4:=cz λ(v:dY)(B:gJ)(l:B=cM 2 (dO v))(hc:v.t=Q)W(X:dZ W G g D M s)R=>tZ G D M g s v B l am2 W X R;have C5:=cz λ(j:dY)(hc:j.t=Q)W(X:dZ W G {g with b:=j} D M (tW s))=>(show sW 57 #[.agg A] W (.int .i64 (Bj {rG (g.gt s) Q with s:=tW s})) from by rw[<-hc];exact zW G D M {g with b:=j} (tW s) A y (show fi j.t by rw[hc];exact f) W X (ik hl kM));have O:=cz C;clear h y E hl U Y f C o;go_enter func51,ntmps51;by_cases m:281474976710651<g.b.next
 case pos=>rw[c8 (.inl m)] at a;have dm:decide (281474976710651<g.b.next)=true:=gI m;clear m;go_wp2_with (first|refine mG (L.o _ _ S.x.at) ?_|refine mG (F.o _ S.x.at) ?_|refine je S (I.o _ S.x.at) λW S=>?_|refine fO ?_|refine fu λW S=>?_);go_ret;rw[a.o];exact aR
 have dm:decide (281474976710651<g.b.next)=false:=jC m;by_cases H:281474976710651<st;case pos=>rw[c8 (.inr H)] at a;have ds:decide ((281474976710651:Int)<(st:Int))=true:=gI cN;clear m H;go_wp2_with (first|refine mG (L.o _ _ S.x.at) ?_|refine mG (F.o _ S.x.at) ?_|refine je S (I.o _ S.x.at) λW S=>?_|refine fO ?_|refine fu λW S=>?_);go_ret;rw[a.o];exact aR
 rw[cX (λh=>h.elim m H)] at a;have ds:decide ((281474976710651:Int)<(st:Int))=false:=jC cN;clear m H;go_upto_region 4 with(first|refine mG (L.o _ _ S.x.at) ?_|refine mG (F.o _ S.x.at) ?_|refine je S (I.o _ S.x.at) λW S=>?_|refine fO ?_|refine fu λW S=>?_);refine eR S dC [⟨w.heap.size,118,1,λ_=>dF G 0⟩] Cz λW S=>?_;refine dh 0 (dF w.heap.size 0) ?_;refine dh 1 (dF G 0) ?_;refine ij 3 (.string cT) ae (gW (λw h=>cL.cell (cL.fr O.o h.fr ax aD) (i:=0) cN) ae Gr) ?_;refine dh 4 _ ?_;repeat' first|refine Th ?_|refine nz 6 _ ?_|refine nz 7 (.agg B2) ?_|refine nz 8 (.int .i64 c) ?_|refine nz 11 _ ?_|refine Bt 2 9 (λK d=>?_) λK d=>?_|refine qf 2 λK d=>?_|refine qf 5 λK d=>?_|refine qf 10 λK d=>?_|refine Bt 5 9 (λK d=>?_) λK d=>?_|refine qf 9 λK d=>?_|(refine gu S sR ot ae λE9 W S=>?_;refine gy d ?_)|(go_wp2_with fail;refine ah (C2.o _ S.x.at) λB W⟨⟨u,l,hc,ho⟩,z⟩=>?_;have HB:=cz l;have HC:=cz hc;replace S:=S.kq z ho;clear l hc;refine gy d ?_)|(go_wp2_with fail;refine ah (J.o u B HB.o HC.o _ ⟨S.q0,λx Z=>(S.x.2 x Z).1⟩) λB2 W⟨⟨v,l,hc,ho⟩,z⟩=>?_;have p:=cz l;have q:=cz hc;replace S:=S.kq z ho;clear l hc;refine gy d ?_)|(refine km S 0 ae ae ae p.o nU (fW _) λW S=>?_;refine gy d ?_)
 all_goals(
  refine cz ?_;by_cases g2:c=0
  case neg=>
   have g3:(c !=0)=true:=fK.2 g2;rw[c8 g2] at a;clear g2;go_wp2;go_ret;rw[a.o];exact bM
  subst g2;rw[cX aI] at a
  go_upto_region 8 with(first|(refine ah (C4.o v B2 p.o q.o _ S.x.1.1.at ⟨S.q0,λx Z=>(S.x.2 x Z).1⟩) λj W⟨hc,hg,ho,hf⟩=>?_;have t:=cz (hc.trans q.o);replace S:=(S.EH (λB w h=>h.1.1) (iB G g D M s)).Yk hg ho hf aZ;clear hc hg)|refine fO ?_)
  go_wp2_with first|refine mG (CQ.o _ _ S.x.at) ?_|(refine aj (CN.o _ S.x.at.kB.row) λW⟨hp,z⟩=>?_;have n:=fh.next S.x.at.kB hp z;replace S:=S.ahV n.2 (λD e=>by cases e) (λk hk=>.inl (by rw[fS.1 hk];simp)) (by rw[fS];exact N.o.1) n.1;clear n)|refine je S (C5.o j t.o _ S.x.at) λW S=>?_|refine fO ?_
  go_ret;rw[a.o];exact⟨{g with b:=j},tW s,ae,ae,S.x.at,by unfold iV.gt rG;rw[<-t.o],id,S.fr⟩)
def SG(G D M:Nat)(g:iV)(s:Pl)(ht:fi g.b.t)(cT:fM)(U:cT.size<=140737488355328)(t:Nat)(w:cS)(h:dZ w G g D M s)(H:cL w t 9 1 (λ_=>.string cT)):
 CP_ 62 (#[.agg (cM 1 λ_=>.pointer (some ⟨G,0,none⟩))]++ #[.pointer (some ⟨t,0,none⟩)]) w λe w'=>zm w w' G D M g (lf cT (g.gt s)) e:=by
 show CP_ 62 #[.agg (cM 1 λ_=>dF G 0),dF t 0] w _;obtain⟨A,hA⟩:=fU (cM 1 (λ_=>dF G 0));rw[<-hA];have F:=cz hA;have S:=St.start w (some D) [G,M,g.P] (iB G g D M s) h.x;have a6:=cz (qK.Pa h.x);have C0:=cz λW=>tG cT U W;have C2:=cz λW(X:dZ W G g D M s)=>lS G D M g s ht.fit W X;have d:=cz (show lf cT (g.gt s)=(eW cT).elim (g.gt s,141) λp=>if p.2=tp then oB (g.gt s) (fx g.b.t cT) else ud (g.gt s) (eu g.b.t cT) from ae);obtain⟨T,I⟩:=dG (lf cT (g.gt s));obtain⟨ns,F⟩:=dG (eW cT);rw[I,F] at d;rw[I];rw[F] at C0;have C:=cz H;clear h I F H;cases ns with
 |none=>rw[show gq 141 (none:Option (fM×fM))=141 from ae] at C0;simp only[Option.elim_none] at d;clear hA;go_enter func62,ntmps62;go_wp2_with (first|refine zw (cL.cell (cL.fr C.o S.fr ax aD) (i:=0) cN) ?_|refine je S (C0.o _) λW S=>?_|refine fu λW S=>?_);go_ret;rw[d.o];exact aR
 |some p=>
  obtain⟨F,sn⟩:=p;simp only[kL] at C0;rw[show gq 141 (some (F,sn))=0 from ae] at C0;simp only[BB] at d;by_cases O:sn=tp
  . have g1:sn.toList.isEmpty=true:=by rw[O,DF];rfl
    rw[c8 O] at d;have F:=cz λ(c:dY)(B:gJ)(f:B=cM 2 (dO c))(hc:c.t=g.b.t)W(R:jd W c)=>(show CP_ 64 #[.agg B,.string cT] W λe w'=>∃B D,e=.returned (.tuple #[.agg B,.agg D,.int .i64 (fx g.b.t cT).2.2])/\lV w' W.heap.size B (fx g.b.t cT).1/\ze w' W.heap.size D (fx g.b.t cT).2.1/\dS W w' from by rw[<-hc];exact K3 c B f (by rw[hc];exact ht.fit) cT U W R);obtain⟨n,Z⟩:=Bh ht cT;obtain⟨r,u⟩:=dG (fx g.b.t cT);rw[u] at F n Z d;obtain⟨b2,V,c⟩:=r;simp only at F n Z;unfold oB at d;simp only at d;have C4:=cz λ(l:dY)(B:gJ)(f:B=cM 2 (dO l))(hc:l.t=b2)(y:dL)(J:gJ)(H:J=cM 11 (iz y))(I:y.todu=V)W X R=>FG G D M g s ht l B f (by rw[hc];exact n.fit) y J H (by have O:=Z.2.2.1;rw[<-I] at O;exact O) A hA W X R;clear hA ht u n Z O;go_enter func62,ntmps62
    go_upto_region 5 with(first|refine zw (cL.cell (cL.fr C.o S.fr ax aD) (i:=0) cN) ?_|refine je S (C0.o _) λW S=>?_|refine fu λW S=>?_)
    refine eR S dC [⟨w.heap.size,118,1,λ_=>dF G 0⟩] Cz λW S=>?_;refine dh 0 (dF w.heap.size 0) ?_;refine dh 1 (dF G 0) ?_;refine ij 3 (.string cT) ae (gW (λw h=>cL.cell (cL.fr C.o h.fr ax aD) (i:=0) cN) ae Gr) ?_
    all_goals(first|refine rd3 (i:=2) (j:=9) (k:=10) dk_ ae ae ae dC dC dC (λK a=>?_) (λK a=>?_) (λK a=>?_))
    all_goals(first|(go_wp2_with fail;refine A7 S (C2.o _ S.x.at) λW B t J L _ S=>?_;refine gy a ?_)|(refine gu S sR ot ae λZ W S=>?_;refine gy a ?_)|(refine gu S xP pS ae λY W S=>?_;refine gy a ?_))
    all_goals(clear a K)
    all_goals(first|(refine rd3 (i:=4) (j:=9) (k:=10) dk_ ae ae ae dC dC dC (λK a=>?_) (λK a=>?_) (λK a=>?_))|(refine Bt 2 10 (λK a=>?_) λK a=>?_)|refine Bt 2 9 (λK a=>?_) λK a=>?_)
    all_goals(first|(go_wp2_with fail;refine(F.o t B J.o L.o _ ⟨S.q0,λx E=>(S.x.2 x E).1⟩).mono ?_;rintro e W ⟨v,V,rfl,⟨l,f,hc,ho⟩,⟨y2,H,I,-⟩,Q⟩;have m:=cz f;have o:=cz hc;have z:=cz H;have N:=cz I;replace S:=S.kq Q ho;clear f hc H I;refine gy a ?_)|(refine gu S sR ot ae λZ W S=>?_;refine gy a ?_)|(refine gu S xP pS ae λY W S=>?_;refine gy a ?_)|(go_wp2_with fail;refine A7 S (C2.o _ S.x.at) λW B t J L _ S=>?_;refine gy a ?_))
    all_goals(clear a K)
    all_goals(try(refine nz 5 _ ?_))
    all_goals(try(refine nz 6 (.agg v) ?_))
    all_goals(try(refine nz 7 (.agg V) ?_))
    all_goals(try(refine nz 8 (.int .i64 c) ?_))
    all_goals(first|(refine Bt 9 10 (λK a=>?_) λK a=>?_)|(refine Bt 4 10 (λK a=>?_) λK a=>?_)|(refine Bt 4 9 (λK a=>?_) λK a=>?_)|refine qf 2 λK a=>?_)
    all_goals(first|(refine gu S sR ot ae λZ W S=>?_;refine gy a ?_)|(refine gu S xP pS ae λY W S=>?_;refine gy a ?_)|(go_wp2_with fail;refine(F.o t B J.o L.o _ ⟨S.q0,λx E=>(S.x.2 x E).1⟩).mono ?_;rintro e W ⟨v,V,rfl,⟨l,f,hc,ho⟩,⟨y2,H,I,-⟩,Q⟩;have m:=cz f;have o:=cz hc;have z:=cz H;have N:=cz I;replace S:=S.kq Q ho;clear f hc H I;refine gy a ?_)|(go_wp2_with fail;refine A7 S (C2.o _ S.x.at) λW B t J L _ S=>?_;refine gy a ?_))
    all_goals(clear a K)
    all_goals(try(refine nz 5 _ ?_))
    all_goals(try(refine nz 6 (.agg v) ?_))
    all_goals(try(refine nz 7 (.agg V) ?_))
    all_goals(try(refine nz 8 (.int .i64 c) ?_))
    all_goals(first|(refine qf 10 λK a=>?_)|(refine qf 9 λK a=>?_)|refine qf 4 λK a=>?_)
    all_goals(first|(refine gu S xP pS ae λY W S=>?_;refine gy a ?_)|(refine gu S sR ot ae λZ W S=>?_;refine gy a ?_)|(go_wp2_with fail;refine(F.o t B J.o L.o _ ⟨S.q0,λx E=>(S.x.2 x E).1⟩).mono ?_;rintro e W ⟨v,V,rfl,⟨l,f,hc,ho⟩,⟨y2,H,I,-⟩,Q⟩;have m:=cz f;have o:=cz hc;have z:=cz H;have N:=cz I;replace S:=S.kq Q ho;clear f hc H I;refine gy a ?_))
    all_goals(clear a K)
    all_goals(try(refine nz 5 _ ?_))
    all_goals(try(refine nz 6 (.agg v) ?_))
    all_goals(try(refine nz 7 (.agg V) ?_))
    all_goals(try(refine nz 8 (.int .i64 c) ?_))
    all_goals(first|refine qf 11 λK a=>?_)
    all_goals(first|((first|(refine km S 0 ae ae ae m.o nU (fW _) λW S=>?_)|refine km S 1 rfl rfl rfl m.o nU (fW _) λW S=>?_);refine gy a ?_))
    all_goals(clear a K)
    all_goals(first|refine qf 12 λK a=>?_)
    all_goals(first|((first|(refine km S 0 ae ae ae z.o uX (mI _) λW S=>?_)|refine km S 1 rfl rfl rfl z.o uX (mI _) λW S=>?_);refine gy a ?_))
    all_goals(clear a K)
    all_goals(refine dh 13 _ ?_)
    all_goals(refine qG ?_)
    all_goals(
     first|(replace S:St w (some D) [G,M,g.P] [⟨Y,109,11,iz y2⟩,⟨Z,99,2,dO l⟩,⟨w.heap.size,118,1,λ_=>dF G 0⟩] _ _ _:=S)|(replace S:St w (some D) [G,M,g.P] [⟨Y,109,11,iz y2⟩,⟨Z,99,2,dO l⟩,⟨w.heap.size,118,1,λ_=>dF G 0⟩] _ _ _:=S.aek)
     by_cases g2:c=0
     case neg=>
      have g3:(c !=0)=true:=fK.2 g2;rw[c8 g2] at d;clear g2;go_wp2;go_ret;rw[d.o];exact bM
     subst g2;rw[cX aI,<-o.o,<-N.o] at d
     go_wp2_with first|(refine(C4.o l v m.o o.o y2 V z.o N.o _ S.x.1.1.at ⟨S.q0,λx E=>(S.x.2 x E).1⟩).mono ?_;rintro e W a;have V:=cz a;clear a;obtain⟨g3,s3,rfl,hP,H,q,Y,I⟩:=V.o;clear V;have hF:=S.fr.step I aw (λk hk=>.inl hk);have V:=cz (And.intro hP (And.intro H (And.intro q Y)));clear hP H q Y;rw[<-d.o])|refine fO ?_
     go_ret;obtain⟨hP,H,q,Y⟩:=V.o;rw[<-d.o] at q;exact⟨g3,s3,ae,hP,H,q,Y,hF⟩)
  . have g1:sn.toList.isEmpty=false:=AU O;rw[cX O] at d;have F:=cz λ(c:dY)(B:gJ)(f:B=cM 2 (dO c))(hc:c.t=g.b.t)W(R:jd W c)=>(show CP_ 66 #[.agg B,.string cT] W λe w'=>∃B r,e=.returned (.tuple #[.agg B,r,.int .i64 (eu g.b.t cT).2.2])/\lV w' W.heap.size B (eu g.b.t cT).1/\ir w' W.heap.size r (eu g.b.t cT).2.1/\dS W w' from by rw[<-hc];exact JA c B f (by rw[hc];exact ht.fit) cT U W R);obtain⟨n,V,U⟩:=z6 ht cT;obtain⟨r,u⟩:=dG (eu g.b.t cT);rw[u] at F n V U d;obtain⟨b2,jS,c⟩:=r;simp only at F n V U;unfold ud at d;simp only at d;have Y:=cz λr W X(R:ly W r jS)=>Cm G D M g s jS V U r A hA W X R;have C6:=cz λ(l:dY)(B:gJ)(f:B=cM 2 (dO l))(hc:l.t=b2)W(X:dZ W G g D M (dM s jS))R=>tZ G D M g (dM s jS) l B f (by rw[hc];exact n.fit) W X R;clear hA ht u n V U O;go_enter func62,ntmps62
    go_upto_region 9 with(first|refine zw (cL.cell (cL.fr C.o S.fr ax aD) (i:=0) cN) ?_|refine je S (C0.o _) λW S=>?_|refine fu λW S=>?_)
    refine eR S dC [⟨w.heap.size,118,1,λ_=>dF G 0⟩] Cz λW S=>?_;refine dh 0 (dF w.heap.size 0) ?_;refine dh 1 (dF G 0) ?_;refine ij 3 (.string cT) ae (gW (λw h=>cL.cell (cL.fr C.o h.fr ax aD) (i:=0) cN) ae Gr) ?_
    all_goals(first|refine Bt 2 9 (λK a=>?_) λK a=>?_)
    all_goals(first|(go_wp2_with fail;refine A7 S (C2.o _ S.x.at) λW B t J L _ S=>?_;refine gy a ?_)|(refine gu S sR ot ae λZ W S=>?_;refine gy a ?_))
    all_goals(clear a K)
    all_goals(first|(refine Bt 4 9 (λK a=>?_) λK a=>?_)|refine qf 2 λK a=>?_)
    all_goals(first|(go_wp2_with fail;refine(F.o t B J.o L.o _ ⟨S.q0,λx E=>(S.x.2 x E).1⟩).mono ?_;rintro e W ⟨v,r,rfl,⟨l,f,hc,ho⟩,u,Q⟩;have m:=cz f;have o:=cz hc;have R:=cz (dx u);replace S:=S.Nz Q ho u;clear f hc u;obtain⟨U,V,rfl⟩:=R.o;clear R;refine gy a ?_)|(refine gu S sR ot ae λZ W S=>?_;refine gy a ?_)|(go_wp2_with fail;refine A7 S (C2.o _ S.x.at) λW B t J L _ S=>?_;refine gy a ?_))
    all_goals(clear a K)
    all_goals(try(refine nz 5 _ ?_))
    all_goals(try(refine nz 6 (.agg v) ?_))
    all_goals(try(refine nz 7 (.slice U jS.length V) ?_))
    all_goals(try(refine nz 8 (.int .i64 c) ?_))
    all_goals(first|(refine qf 9 λK a=>?_)|refine qf 4 λK a=>?_)
    all_goals(first|(refine gu S sR ot ae λZ W S=>?_;refine gy a ?_)|(go_wp2_with fail;refine(F.o t B J.o L.o _ ⟨S.q0,λx E=>(S.x.2 x E).1⟩).mono ?_;rintro e W ⟨v,r,rfl,⟨l,f,hc,ho⟩,u,Q⟩;have m:=cz f;have o:=cz hc;have R:=cz (dx u);replace S:=S.Nz Q ho u;clear f hc u;obtain⟨U,V,rfl⟩:=R.o;clear R;refine gy a ?_))
    all_goals(clear a K)
    all_goals(try(refine nz 5 _ ?_))
    all_goals(try(refine nz 6 (.agg v) ?_))
    all_goals(try(refine nz 7 (.slice U jS.length V) ?_))
    all_goals(try(refine nz 8 (.int .i64 c) ?_))
    all_goals(first|refine qf 10 λK a=>?_)
    all_goals(first|(refine km S 0 ae ae ae m.o nU (fW _) λW S=>?_;refine gy a ?_))
    all_goals(clear a K)
    all_goals(refine dh 11 _ ?_)
    all_goals(refine dh 12 _ ?_)
    all_goals(refine qG ?_)
    all_goals(
     by_cases F:c=131
     case pos=>
      subst F;rw[c8 ae] at d
      go_wp2_with (refine(sI 131 _).mono ?_;rintro e W ⟨rfl,rfl⟩;)
      go_ret;rw[d.o];exact⟨g,s,ae,ae,S.x.1.1.1.at,ae,id,S.fr⟩
     have J:(c==131)=false:=lr.2 F;have J:decide (c=131)=false:=jC F;rw[cX F] at d;clear F;by_cases g2:c=0
     case neg=>
      have g3:(c !=0)=true:=fK.2 g2;rw[c8 g2] at d;clear g2;go_wp2;go_ret;rw[d.o];exact⟨g,s,ae,ae,S.x.1.1.1.at,ae,id,S.fr⟩
     subst g2;rw[cX aI] at d
     go_wp2_with first|(refine aj (Y.o _ _ S.x.1.1.1.at S.x.2.1) λW⟨H,I⟩=>?_;replace S:=S.call (X':=λB w=>qK G g D M (dM s jS) B w/\rU l.sv l.l B w) I aw (λk hk=>.inl (by rw[fS.1 hk];simp)) ((iB G g D M _).still (fP l.sv l.l)) (λB h=>⟨h.1.1.1.pl I (by rw[fS];exact a6.o.2.1) H.kB,(fP _ _).fr h.1.2 I⟩);clear H)|(refine ah (C6.o l v m.o o.o _ S.x.1.at S.x.2.sl) λJ W⟨hc,H,ho,I⟩=>?_;have F:=cz (hc.trans o.o);replace S:=(S.EH (λB w h=>h.1) (iB G g D M _)).Yk H ho I aZ;clear hc H)|refine fO ?_
     go_ret;rw[d.o];exact⟨{g with b:=J},dM s jS,ae,ae,S.x.at,by unfold iV.gt;rw[<-F.o],id,S.fr⟩)
def K7(w w':cS)(K D:Nat)(r:GT×Int)(e:Ending):Prop:=e=cj (bU cq r.2)/\fJ w' K D r.1/\Fr (cu D) [K] w w'
def D3(K D:Nat)(x:GT)(i:Gy x)(cT:fM)(l:cT.s<=140737488355328)(n:Int)(w:cS)(h:fJ w K D x):
 CP_ 33 #[bW (cu ⟨K,0,cw⟩),bY cT,bU cq n] w λe w'=>K7 w w' K D (dX x (my cT n)) e:=by
 obtain⟨G,g,M,H,f,b⟩:=h;have v:=cz i;have m:=cz (And.intro f b);have S:=St.start w (cu D) [K] (kg K G g D M x.s) H.x;have p:∀args w,(callFunc 76 args).run prog w=.ok (.enter 76 args) w:=enters_of func76 dC ae;have s:=cz p;have t:=cz λG2 M2 g2(a:g2.gt x.s=x)(z A:Nat)W(X:dZ W G2 g2 D M2 x.s)h0 c=>(show CP_ 76 _ W λe w'=>zm W w' G2 D M2 g2 (my cT n x) e from by
  have I:fi g2.b.t:=by have c:=i.text;rw[<-a] at c;exact c
  have F:g2.dI.n<=100000:=by have c:=i.qD;rw[<-a] at c;exact c
  have q:=VC G2 D M2 g2 x.s I F cT l n z A W X h0 c;rw[a] at q;exact q)
 obtain⟨T,o⟩:=sV (dX x (my cT n));rw[o.o];clear f b i p;go_enter func33,ntmps33;go_wp2_with (first|(refine aj (o8 K D x v.o (my cT n) 76 _ s.o _ ⟨G,g,M,S.x.at,m.o.1,m.o.2⟩ (λG2 M2 g2 y r C a=>t.o G2 M2 g2 a _ _ y C (cL.fr S.k1 r ax aD) (cL.fr S.k0 r ax aD))) λJ⟨d,j⟩=>?_;have B:=S.fr.step j aw (λk E=>.inl E);rw[o.o] at d|-;have u:=cz d;clear d)|refine fu λW S=>?_);go_ret;exact⟨ae,u.o,B⟩
def Pg(K D:Nat)(x:GT)(j:Gy x)(cT b:fM)(m:cT.s<=140737488355328)(n:b.s<=140737488355328)(w:cS)(h:fJ w K D x):
 CP_ 40 #[bW (cu ⟨K,0,cw⟩),bY cT,bY b] w λe w'=>K7 w w' K D (dX x (qL cT b)) e:=by
 obtain⟨G,g,M,I,i,c⟩:=h;have y:=cz j;have o:=cz (And.intro i c);have S:=St.start w (cu D) [K] (kg K G g D M x.s) I.x;have q:∀args w,(callFunc 96 args).run prog w=.ok (.enter 96 args) w:=enters_of func96 dC ae;have t:=cz q;have u:=cz λG2 M2 g2(a:g2.gt x.s=x)(A B:Nat)W(X:dZ W G2 g2 D M2 x.s)h0 d=>(show CP_ 96 _ W λe w'=>zm W w' G2 D M2 g2 (qL cT b x) e from by
  have J:fi g2.b.t:=by have d:=j.text;rw[<-a] at d;exact d
  have H:g2.dI.n<=100000:=by have d:=j.qD;rw[<-a] at d;exact d
  have r:=Yp G2 D M2 g2 x.s J H cT b m n A B W X h0 d;rw[a] at r;exact r)
 obtain⟨T,p⟩:=sV (dX x (qL cT b));rw[p.o];clear i c j q;go_enter func40,ntmps40;go_wp2_with (first|(refine aj (o8 K D x y.o (qL cT b) 96 _ t.o _ ⟨G,g,M,S.x.at,o.o.1,o.o.2⟩ (λG2 M2 g2 z s E a=>u.o G2 M2 g2 a _ _ z E (cL.fr S.k1 s ax aD) (cL.fr S.k0 s ax aD))) λL⟨f,l⟩=>?_;have C:=S.fr.step l aw (λk F=>.inl F);rw[p.o] at f|-;have v:=cz f;clear f)|refine fu λW S=>?_);go_ret;exact⟨ae,v.o,C⟩
def SH(K D:Nat)(x:GT)(i:Gy x)(cT:fM)(l:cT.s<=140737488355328)(w:cS)(h:fJ w K D x):
 CP_ 14 #[bW (cu ⟨K,0,cw⟩),bY cT] w λe w'=>K7 w w' K D (dX x (vl cT)) e:=by
 obtain⟨G,g,M,E,f,b⟩:=h;have t:=cz i;have m:=cz (And.intro f b);have S:=St.start w (cu D) [K] (kg K G g D M x.s) E.x;have o:∀args w,(callFunc 51 args).run prog w=.ok (.enter 51 args) w:=enters_of func51 dC ae;have q:=cz o;have r:=cz λG2 M2 g2(a:g2.gt x.s=x)(v:Nat)W(X:dZ W G2 g2 D M2 x.s)h0=>(show CP_ 51 _ W λe w'=>zm W w' G2 D M2 g2 (vl cT x) e from by
  have F:fi g2.b.t:=by have d:=i.text;rw[<-a] at d;exact d
  have C:g2.dI.n<=100000:=by have d:=i.qD;rw[<-a] at d;exact d
  have p:=ab0 G2 D M2 g2 x.s F C cT l v W X h0;rw[a] at p;exact p)
 obtain⟨T,n⟩:=sV (dX x (vl cT));rw[n.o];clear f b i o;go_enter func14,ntmps14;go_wp2_with (first|(refine aj (o8 K D x t.o (vl cT) 51 _ q.o _ ⟨G,g,M,S.x.at,m.o.1,m.o.2⟩ (λG2 M2 g2 u z A a=>r.o G2 M2 g2 a _ u A (cL.fr S.k0 z ax aD))) λH⟨c,j⟩=>?_;have y:=S.fr.step j aw (λk B=>.inl B);rw[n.o] at c|-;have s:=cz c;clear c)|refine fu λW S=>?_);go_ret;exact⟨ae,s.o,y⟩
def K8(K D:Nat)(x:GT)(i:Gy x)(cT:fM)(l:cT.s<=140737488355328)(w:cS)(h:fJ w K D x):
 CP_ 41 #[bW (cu ⟨K,0,cw⟩),bY cT] w λe w'=>K7 w w' K D (dX x (lY cT)) e:=by
 obtain⟨G,g,M,C,f,b⟩:=h;have t:=cz i;have m:=cz (And.intro f b);have S:=St.start w (cu D) [K] (kg K G g D M x.s) C.x;have o:∀args w,(callFunc 98 args).run prog w=.ok (.enter 98 args) w:=enters_of func98 dC ae;have q:=cz o;have r:=cz λG2 M2 g2(a:g2.gt x.s=x)(v:Nat)W(X:dZ W G2 g2 D M2 x.s)h0=>(show CP_ 98 _ W λe w'=>zm W w' G2 D M2 g2 (lY cT x) e from by
  have E:fi g2.b.t:=by have d:=i.text;rw[<-a] at d;exact d
  have H:g2.dI.n<=100000:=by have d:=i.qD;rw[<-a] at d;exact d
  have p:=SF G2 D M2 g2 x.s E cT l v W X h0;rw[a] at p;exact p)
 obtain⟨T,n⟩:=sV (dX x (lY cT));rw[n.o];clear f b i o;go_enter func41,ntmps41;go_wp2_with (first|(refine aj (o8 K D x t.o (lY cT) 98 _ q.o _ ⟨G,g,M,S.x.at,m.o.1,m.o.2⟩ (λG2 M2 g2 u z A a=>r.o G2 M2 g2 a _ u A (cL.fr S.k0 z ax aD))) λF⟨c,j⟩=>?_;have y:=S.fr.step j aw (λk B=>.inl B);rw[n.o] at c|-;have s:=cz c;clear c)|refine fu λW S=>?_);go_ret;exact⟨ae,s.o,y⟩
def SI(K D:Nat)(x:GT)(i:Gy x)(cT:fM)(l:cT.s<=140737488355328)(w:cS)(h:fJ w K D x):
 CP_ 42 #[bW (cu ⟨K,0,cw⟩),bY cT] w λe w'=>K7 w w' K D (dX x (uC cT)) e:=by
 obtain⟨G,g,M,C,f,b⟩:=h;have t:=cz i;have m:=cz (And.intro f b);have S:=St.start w (cu D) [K] (kg K G g D M x.s) C.x;have o:∀args w,(callFunc 100 args).run prog w=.ok (.enter 100 args) w:=enters_of func100 dC ae;have q:=cz o;have r:=cz λG2 M2 g2(a:g2.gt x.s=x)(v:Nat)W(X:dZ W G2 g2 D M2 x.s)h0=>(show CP_ 100 _ W λe w'=>zm W w' G2 D M2 g2 (uC cT x) e from by
  have E:fi g2.b.t:=by have d:=i.text;rw[<-a] at d;exact d
  have H:g2.dI.n<=100000:=by have d:=i.qD;rw[<-a] at d;exact d
  have p:=abX G2 D M2 g2 x.s E cT l v W X h0;rw[a] at p;exact p)
 obtain⟨T,n⟩:=sV (dX x (uC cT));rw[n.o];clear f b i o;go_enter func42,ntmps42;go_wp2_with (first|(refine aj (o8 K D x t.o (uC cT) 100 _ q.o _ ⟨G,g,M,S.x.at,m.o.1,m.o.2⟩ (λG2 M2 g2 u z A a=>r.o G2 M2 g2 a _ u A (cL.fr S.k0 z ax aD))) λF⟨c,j⟩=>?_;have y:=S.fr.step j aw (λk B=>.inl B);rw[n.o] at c|-;have s:=cz c;clear c)|refine fu λW S=>?_);go_ret;exact⟨ae,s.o,y⟩
def La(K D:Nat)(x:GT)(i:Gy x)(cT:fM)(l:cT.s<=140737488355328)(w:cS)(h:fJ w K D x):
 CP_ 19 #[bW (cu ⟨K,0,cw⟩),bY cT] w λe w'=>K7 w w' K D (dX x (lf cT)) e:=by
 obtain⟨G,g,M,C,f,b⟩:=h;have t:=cz i;have m:=cz (And.intro f b);have S:=St.start w (cu D) [K] (kg K G g D M x.s) C.x;have o:∀args w,(callFunc 62 args).run prog w=.ok (.enter 62 args) w:=enters_of func62 dC ae;have q:=cz o;have r:=cz λG2 M2 g2(a:g2.gt x.s=x)(v:Nat)W(X:dZ W G2 g2 D M2 x.s)h0=>(show CP_ 62 _ W λe w'=>zm W w' G2 D M2 g2 (lf cT x) e from by
  have E:fi g2.b.t:=by have d:=i.text;rw[<-a] at d;exact d
  have H:g2.dI.n<=100000:=by have d:=i.qD;rw[<-a] at d;exact d
  have p:=SG G2 D M2 g2 x.s E cT l v W X h0;rw[a] at p;exact p)
 obtain⟨T,n⟩:=sV (dX x (lf cT));rw[n.o];clear f b i o;go_enter func19,ntmps19;go_wp2_with (first|(refine aj (o8 K D x t.o (lf cT) 62 _ q.o _ ⟨G,g,M,S.x.at,m.o.1,m.o.2⟩ (λG2 M2 g2 u z A a=>r.o G2 M2 g2 a _ u A (cL.fr S.k0 z ax aD))) λF⟨c,j⟩=>?_;have y:=S.fr.step j aw (λk B=>.inl B);rw[n.o] at c|-;have s:=cz c;clear c)|refine fu λW S=>?_);go_ret;exact⟨ae,s.o,y⟩
def FH(K D:Nat)(x:GT)(j:Gy x)(cT:fM)(q:cT.s<=140737488355328)(i:Int)(bs:cV)(m:Option Addr)(n:Nat)(w:cS)(h:fJ w K D x)(o:lM w 5 (bX m bs.n n) bs):
 CP_ 34 #[bW (cu ⟨K,0,cw⟩),bY cT,bU cq i,bX m bs.n n] w λe w'=>K7 w w' K D (dX x (mM cT i bs)) e:=by
 obtain⟨G,g,M,L,f,b⟩:=h;have B:=cz j;have s:=cz (And.intro f b);have S:=St.start w (cu D) [K] (kg K G g D M x.s) L.x;have u:∀args w,(callFunc 78 args).run prog w=.ok (.enter 78 args) w:=enters_of func78 dC ae;have y:=cz u;have z:=cz λG2 M2 g2(a:g2.gt x.s=x)(E F d2:Nat)W(X:dZ W G2 g2 D M2 x.s)hb h0 c h2=>(show CP_ 78 _ W λe w'=>zm W w' G2 D M2 g2 (mM cT i bs x) e from by
  have N:fi g2.b.t:=by have c:=j.text;rw[<-a] at c;exact c
  have J:g2.dI.n<=100000:=by have c:=j.qD;rw[<-a] at c;exact c
  have v:=Yo G2 D M2 g2 x.s N J j.ops cT q i bs m n E F d2 W X hb h0 c h2;rw[a] at v;exact v)
 obtain⟨T,t⟩:=sV (dX x (mM cT i bs));rw[t.o];clear f b j u;go_enter func34,ntmps34;go_wp2_with (first|(refine aj (o8 K D x B.o (mM cT i bs) 78 _ y.o _ ⟨G,g,M,S.x.at,s.o.1,s.o.2⟩ (λG2 M2 g2 C l I a=>z.o G2 M2 g2 a _ _ _ C I (lM.fr o (S.fr.step l aw (λk r=>.inl r)) ax ae) (cL.fr S.k2 l ax aD) (cL.fr S.k1 l ax aD) (cL.fr S.k0 l ax aD))) λO⟨d,p⟩=>?_;have H:=S.fr.step p aw (λk r=>.inl r);rw[t.o] at d|-;have A:=cz d;clear d)|refine fu λW S=>?_);go_ret;exact⟨ae,A.o,H⟩
def SJ(K D:Nat)(x:GT)(j:Gy x)(cT:fM)(m:cT.s<=140737488355328)(i:Int)(w:cS)(h:fJ w K D x):
 CP_ 39 #[bW (cu ⟨K,0,cw⟩),bY cT,bU cq i] w λe w'=>K7 w w' K D (dX x (rH cT i)) e:=by
 obtain⟨G,g,M,H,f,b⟩:=h;have v:=cz j;have n:=cz (And.intro f b);have S:=St.start w (cu D) [K] (kg K G g D M x.s) H.x;have p:∀args w,(callFunc 94 args).run prog w=.ok (.enter 94 args) w:=enters_of func94 dC ae;have s:=cz p;have t:=cz λG2 M2 g2(a:g2.gt x.s=x)(z A:Nat)W(X:dZ W G2 g2 D M2 x.s)h0 c=>(show CP_ 94 _ W λe w'=>zm W w' G2 D M2 g2 (rH cT i x) e from by
  have I:fi g2.b.t:=by have c:=j.text;rw[<-a] at c;exact c
  have F:g2.dI.n<=100000:=by have c:=j.qD;rw[<-a] at c;exact c
  have q:=abY G2 D M2 g2 x.s I F j.ops cT m i z A W X h0 c;rw[a] at q;exact q)
 obtain⟨T,o⟩:=sV (dX x (rH cT i));rw[o.o];clear f b j p;go_enter func39,ntmps39;go_wp2_with (first|(refine aj (o8 K D x v.o (rH cT i) 94 _ s.o _ ⟨G,g,M,S.x.at,n.o.1,n.o.2⟩ (λG2 M2 g2 y r C a=>t.o G2 M2 g2 a _ _ y C (cL.fr S.k1 r ax aD) (cL.fr S.k0 r ax aD))) λJ⟨d,l⟩=>?_;have B:=S.fr.step l aw (λk E=>.inl E);rw[o.o] at d|-;have u:=cz d;clear d)|refine fu λW S=>?_);go_ret;exact⟨ae,u.o,B⟩
def IE(w:cS)(base D:Nat)(x:GT)(c:Int)(v:c7):Prop:=
 (c=0->∃K,v=bW (cu ⟨K,0,cw⟩)/\base<=K/\fJ w K D x)/\(c≠0->v=bW cw/\iQ w D x.s.dv)
def VD(D:Nat)(d:Dv)(ho:d.ops<=990000000)(w:cS)(a:iQ w D d):
 CP_ 38 #[bW (cu ⟨D,0,cw⟩)] w λe w'=>∃v,e=cj (cg #[v,bU cq (jJ d).2])/\IE w' w.h.s D (jJ d).1 (jJ d).2 v/\Fr (cu D) [] w w':=by
 have S:=St.start w (cu D) [] (gj D d) a;have j:=cz λW(X:iQ W D d)=>Pe D d ho W X;obtain⟨T,o⟩:=dG (jJ d);rw[o] at j|-;obtain⟨x,c⟩:=T;simp only at j|-;clear a o;go_enter func38,ntmps38;go_upto_region 2 with(refine ah (j.o _ S.x) λv W⟨p,y⟩=>?_;have l:=cz p;have k:=cz y;clear p);by_cases g2:c=0;case neg=>have g3:(c !=0)=cx:=fK.2 g2;have n:=cz g2;clear g2;go_wp2;go_ret2;exact anw
 subst g2;obtain⟨G,g,M,rfl,r,u,t,f,i,b⟩:=l.o.1 ae;have m:=cz (And.intro i b);replace S:=S.Nn k.o aw eQ (iB G g D M x.s) f.x;clear r u t f i b l k;go_wp2_with (first|refine lE (cells:=cM 1 (λ_=>dF G 0)) ae dC ?_|refine Ns S rfl rfl rfl λK W s S=>?_);go_ret2;exact⟨_,ae,⟨λ_=>⟨K,ae,s,⟨G,g,M,⟨S.x.2,S.x.1.at⟩,m.o.1,by have q:g.dI=x.dI:=gQ GT.dI m.o.1;rw[<-q];exact m.o.2⟩⟩,λh=>absurd ae h⟩,S.fr⟩
def Cn(D:Nat)(d:Dv)(w:cS)(a:iQ w D d):
 CP_ 17 #[bW (cu ⟨D,0,cw⟩)] w λe w'=>∃v,e=cj (cg #[v,bU cq (lZ d).2])/\IE w' w.h.s D (lZ d).1 (lZ d).2 v/\Fr (cu D) [] w w':=by
 have S:=St.start w (cu D) [] (gj D d) a;have j:=cz λW(X:iQ W D d)=>Pf D d W X;obtain⟨T,o⟩:=dG (lZ d);rw[o] at j|-;obtain⟨x,c⟩:=T;simp only at j|-;clear a o;go_enter func17,ntmps17;go_upto_region 2 with(refine ah (j.o _ S.x) λv W⟨p,y⟩=>?_;have l:=cz p;have k:=cz y;clear p);by_cases g2:c=0;case neg=>have g3:(c !=0)=cx:=fK.2 g2;have n:=cz g2;clear g2;go_wp2;go_ret2;exact anw
 subst g2;obtain⟨G,g,M,rfl,r,u,t,f,i,b⟩:=l.o.1 ae;have m:=cz (And.intro i b);replace S:=S.Nn k.o aw eQ (iB G g D M x.s) f.x;clear r u t f i b l k;go_wp2_with (first|refine lE (cells:=cM 1 (λ_=>dF G 0)) ae dC ?_|refine Ns S rfl rfl rfl λK W s S=>?_);go_ret2;exact⟨_,ae,⟨λ_=>⟨K,ae,s,⟨G,g,M,⟨S.x.2,S.x.1.at⟩,m.o.1,by have q:g.dI=x.dI:=gQ GT.dI m.o.1;rw[<-q];exact m.o.2⟩⟩,λh=>absurd ae h⟩,S.fr⟩
theorem St.ahb{D M:Nat}{g:iV}(S:St w (cu D) [K] [] [] (λB w=>zp K G g D M s B w/\qK G2 g2 D M2 s B w) w1)(f:(w.h.s<=G2/\w.h.s<=g2.P/\w.h.s<=M2)/\K<w.h.s/\G<w.h.s/\g.P<w.h.s/\M<w.h.s)(d:dZ w2 G2 g3 D M2 s2)(c:Fr (cu D) [G2,M2,g2.P] w1 w2):
 St w (cu D) [K] [] [] (λB w=>zp K G g D M {s with dv:=s2.dv} B w/\qK G2 g3 D M2 s2 B w) w2:=by
 obtain⟨⟨o,p,q⟩,i,j,l,m⟩:=f;have a:∀k,k<w.h.s->k∉ [G2,M2,g2.P]:=λk h n=>by grind
 have b:=dZ.beside S.x.1.1.at d c (a G j) (a M m) (a _ l);refine S.Nn c aw (λk h=>?_) ((kg K G g D M _).and (iB G2 g3 D M2 s2)) ⟨⟨b.x,cL.fr S.x.1.2 c ax (.inr (a K i))⟩,d.x⟩;grind
def IF(K D:Nat)(x:GT)(q:Gy x)(w:cS)(h:fJ w K D x):
 CP_ 15 #[bW (cu ⟨K,0,cw⟩)] w λe w'=>K7 w w' K D (dX x gD) e:=by
 obtain⟨G,g,M,h,d,f⟩:=h;have b:=cz f;obtain⟨s,R⟩:=dG x.s;rw[R] at h d;obtain rfl:=d;have S:=St.start w (cu D) [K] (kg K G g D M s) h.x;have I:=cz λW(X:tY W K G g D M s)=>Cg K G D M g s W X;have U:=cz λW(X:dZ W G g D M s)=>DZ G D M g s q.text.fit (ik q.qD kM) W X;have N:=cz λG2 M2(g2:iV)W X(a:g2.gt s=g.gt s)=>(show CP_ 59 #[dF G2 0] W λe Y=>zm W Y G2 D M2 g2 (gD (g.gt s)) e from by
  have F:g2.b.t=g.b.t:=gQ GT.b a;have O:g2.dI=g.dI:=gQ GT.dI a;rw[<-a];exact Vn G2 D M2 g2 s (by rw[F];exact q.text) (by rw[O];exact f) (by rw[O];exact q.qD) q.ops W X)
 have k:=cz (show dX (g.gt s) gD=if s.dv.df=cx then(g.gt s,42) else r9 (g.gt s) (gD (g.gt s)) from ae);obtain⟨T,L⟩:=dG (dX (g.gt s) gD);obtain⟨r,p⟩:=dG (gD (g.gt s));obtain⟨Z,o⟩:=dG s.dv.df;rw[L,p,o] at k;rw[L];rw[p] at N;rw[o] at I;have E:=cz h;clear h R L p o q f;go_enter func15,ntmps15;cases Z with
 |true=>rw[c8 ae] at k;go_wp2_with (refine mG (I.o _ S.x.at) ?_;);go_ret;rw[k.o];exact⟨ae,⟨G,g,M,S.x.at,ae,b.o⟩,S.fr⟩
 |false=>
  rw[cX kM] at k;obtain⟨y,c⟩:=r;go_upto_region 5 with(first|refine mG (I.o _ S.x.at) ?_|refine zw (v:=dF G 0) (cL.cell S.x.2 (i:=0) cN) ?_|(refine(U.o _ S.x.at.Hz).mono ?_;rintro e W ⟨G2,g2,M2,rfl,u,A,z,a,d,H⟩;have V:=cz (And.intro (And.intro u (And.intro A z)) (And.intro (cL.lt E.o.row) (And.intro (cL.lt E.o.Hz.row) (And.intro (cL.lt E.o.Hz.kB.row) (cL.lt E.o.Hz.kB.map)))));have l:=cz d;replace S:=(S.cP H).Vx ((kg K G g D M s).and (iB G2 g2 D M2 s)) ⟨(S.cP H).x,a.x⟩;clear u A z a d)|(refine(N.o G2 M2 g2 _ S.x.2.at l.o).mono ?_;rintro e F F;have t:=cz F;obtain⟨g3,R,rfl,F,a,m,B,I⟩:=t.o;clear t;have n:=cz m;have J:=cz B;have hS:=S.ahb V.o a I;clear S F a m B;have S:=hS;clear hS));unfold r9 at k;by_cases F:c=0;case neg=>(have I:(c !=0)=cx:=fK.2 F;rw[c8 F] at k;clear F;go_wp2;go_ret;rw[k.o];have I:R.dv=y.s.dv:=by rw[<-n.o];rfl);have C:=S.x.1.at;rw[I] at C;exact⟨ae,⟨G,g,M,C,ae,b.o⟩,S.fr⟩
  subst F;rw[cX aI] at k;obtain rfl:=n.o;clear n;go_wp2_with (have Q:=S.x.1.2;have a:∀j,j<1->(λ_=>dF G2 0:Nat->c7) j=if j=0 then dF G2 0 else(λ_=>dF G 0:Nat->c7) j:=λj F=>(c8 (show j=0 from Nat.lt_one_iff.1 F)).symm;refine aeD Q 0 cN ae ae ae Zv (λ_=>dF G2 0) a ?_;clear Q a;intro F H p;replace S:=S.ZK H p;clear p);go_ret;rw[k.o];exact⟨ae,⟨G2,g3,M2,S.x.at,ae,J.o (by rw[show g2.dI=g.dI from gQ GT.dI l.o];exact b.o)⟩,S.fr⟩
end
structure tj(x:GT)(N:Nat):Prop where
 text:fi x.b
 qD:x.dI.n<=100000
 ops:x.s.dv.ops<=N
theorem tj.ok{x:GT}(h:tj x N)(a:N<=990000000):Gy x:=⟨h.text,h.qD,ik h.ops a⟩
theorem tj.le{x:GT}{N M:Nat}(h:tj x N)(a:N<=M):tj x M:=⟨h.text,h.qD,ik h.ops a⟩
theorem IG{x:GT}{N:Nat}(h:tj x N){k:GT->GT×Int}(a:tj (k x).1 (N+20000)):tj (dX x k).1 (N+20000):=by unfold dX;split;exact bu;unfold r9;split;exact⟨h.text,h.qD,a.ops⟩;exact a
def VE{x:GT}(h:tj x N){r:ej×Int}(a:fi r.1):tj (pI x r).1 N:=by unfold pI;split;exact h;exact⟨a,h.qD,h.ops⟩
def Qv{x:GT}(h:tj x N)(cT:fM)(n:Int):tj (my cT n x).1 N:=by unfold my;split;exact h;exact VE h (CI h.text _ _)
def aeP{x:GT}(h:tj x N)(f t:fM):tj (qL f t x).1 N:=by unfold qL;split;exact h;exact VE h (D0 h.text _ _)
def ahc{x:GT}(h:tj x N)(f:fM):tj (vl f x).1 N:=by unfold vl;split;exact h;split;exact h;exact⟨Fz h.text _ _,h.qD,h.ops⟩
def Yq{x:GT}(h:tj x N)(f:fM):tj (lY f x).1 N:=by unfold lY;split;exact h;exact⟨Bg h.text _,h.qD,h.ops⟩
theorem aeQ{x:GT}{N:Nat}(h:tj x N){b:ej}(a:fi b)(iW:du):tj (oM b iW x).1 (N+9):=by have c:=Kv x.s iW.cO (gr x.b.cU iW.id);have d:=h.ops;unfold oM vm;split;exact ame;refine⟨a,h.qD,?_⟩;grind[qj]
theorem VF{x:GT}(h:tj x N){r:ej×(du×Int)}(a:fi r.1):tj (oB x r).1 (N+9):=by unfold oB;split;exact bu;grind[aeQ]
theorem ahd{x:GT}{N:Nat}(h:tj x N)(f:fM):tj (uC f x).1 (N+9):=VF h (FA h.text f).1
theorem Yr{x:GT}{N:Nat}(h:tj x N)(f:fM):tj (lf f x).1 (N+9):=by unfold lf;cases eW f with|none=>exact bu|some p=>simp only[BB];split;exact VF h (Bh h.text f).1;have a:=z6 h.text f;unfold ud;split;exact bu;split;exact bu;refine⟨a.1,h.qD,?_⟩;show(dM x.s (eu x.b f).2.1).dv.ops<=_;rw[qj];exact ik h.ops (xN _ _)
theorem ahe{x:GT}{N:Nat}(h:tj x N)(id:Nat){q:cQ}(b:dD q){iW:List cQ}(ho:fQ iW):tj (r8 id q iW x).1 N:=by have a:=FB (IA h.text id b) id iW ho;unfold r8 zn;split;exact h;refine⟨a.1,h.qD,?_⟩;show(dM x.s _).dv.ops<=_;rw[qj];exact h.ops
theorem ZL{x:GT}{N:Nat}(h:tj x N)(id:Nat){t:Pl×(cQ×(List cQ×Int))}(a:t.1.dv.ops<=N+5)(c:dD t.2.1)(ho:fQ t.2.2.1):tj (sS id x t).1 (N+5):=by have b:tj {x with s:=t.1} (N+5):=⟨h.text,h.qD,a⟩;grind[sS,ahe]
theorem VG{x:GT}(h:tj x N)(a:qE x.s.dv)(b:gU x.s.cR)(f:fM)(i:Int)(bs:cV):tj (mM f i bs x).1 (N+5):=by have c:=(Lm h.text f i).2.2.1;have e:=FF a b c i bs;have ho:=Vl x.s (qJ x.b f i).1.cO i bs;have d:=h.ops;unfold mM;split;exact bu;split;exact bu;grind[ZL]
theorem ahf{x:GT}(h:tj x N)(a:qE x.s.dv)(b:gU x.s.cR)(f:fM)(i:Int):tj (rH f i x).1 (N+5):=by have c:=(Lm h.text f i).2.2.1;have e:=D1 a b c i;have ho:=Sv x.s (qJ x.b f i).1.cO i;have d:=h.ops;unfold rH;split;exact bu;grind[ZL]
theorem ND{x:GT}{N:Nat}(h:tj x N):tj (iS x).1 (N+20000):=by have a:=Iu x.s x.b x.dI;have b:=Nr (gg x.s x.b x.dI).1.dv (qk x (gg x.s x.b x.dI));have c:=h.ops;unfold iS q8;split;exact ame;split;exact ame;exact⟨h.text,ik (Fx _ _ _) kM,by show(dP _ _).1.ops<=_;omega⟩
theorem VH{x:GT}{N:Nat}(h:tj x N):tj (gD x).1 (N+20000):=by have a:=h.le (xN N 20000);grind[gD,ND]
theorem NF(d:Dv):tj (jJ d).1 (d.ops+20000):=by have h:tj (gM d) d.ops:=⟨NC,gG _,eN _⟩;unfold jJ;split;exact bu;exact ND h
def IH(d:Dv):tj (vt d) d.ops:=⟨Cl,gG _,eN _⟩
theorem Gz(d:Dv)(h:lI d.nw):tj (lZ d).1 (d.ops+20004):=by obtain⟨g,i,-⟩:=r7 d h;unfold lZ;split;exact(IH d).le (xN _ _);unfold ye;have a:=(IH (eZ d).1).le (show(eZ d).1.ops<=d.ops+20004 by omega);split;exact a;split;exact a;split;exact a;have b:=vi ⟨(eZ d).1,pR (eZ d).1.n,0,0⟩ jH ((eZ d).2.getD lR).iG;generalize jX ⟨(eZ d).1,pR (eZ d).1.n,0,0⟩ ((eZ d).2.getD lR).iG=r at b|-;obtain⟨c,e,f,-⟩:=b;simp only at f;unfold Bk;split;exact(IH r.1.dv).le cN;split;exact(IH r.1.dv).le cN;exact⟨c,ik e kM,by grind⟩
def aeR{x:GT}(h:tj x N)(f:fM)(i:Int):tj (vr f i x).1 (N+3):=by have a:=h.le (xN N 3);have ho:=Vk x.s (tH x.b f i).1.cO i;have b:=h.ops;unfold vr;split;exact a;unfold IC;split;exact a;unfold Ln;split;exact ame;exact ame
def fJ.facts{D:Nat}{x:GT}(h:fJ w K D x):qE x.s.dv/\gU x.s.cR:=by obtain⟨G,g,M,a,-,-⟩:=h;exact⟨a.Hz.kB.dev.1,a.Hz.kB.ok.1⟩
def Dv.al(d:Dv):Prop:=d.df=cy/\d.left= -1
def Wr(A:Nat->Prop)(d e:Dv):Prop:=∃l o f k,(∀p∈l,A p.1)/\e=⟨d.n,d.st,ny d.nw l,d.ps++l,o,f,k⟩/\(d.al->k=cy/\f= -1)
theorem Wr.refl{A:Nat->Prop}(d:Dv):Wr A d d:=⟨[],d.ops,d.left,d.df,by simp,by simp[ny],id⟩
theorem Wr.trans{A:Nat->Prop}{d e f:Dv}(h:Wr A d e)(g:Wr A e f):Wr A d f:=by obtain⟨l,o,f,k,m,rfl,b⟩:=h;obtain⟨j,o',a,i,n,rfl,c⟩:=g;exact⟨l++j,o',a,i,by grind,by grind[ny],λh=>c (b h)⟩
theorem Wr.mono{B:Nat->Prop}{d:Dv}(h:Wr A d e)(g:∀a,A a->B a):Wr B d e:=by grind[Wr]
theorem Wr.n{d:Dv}(h:Wr A d e):e.n=d.n:=by obtain⟨l,o,f,k,_,rfl,_⟩:=h;rfl
theorem Wr.al{d:Dv}(h:Wr A d e)(g:d.al):e.al:=by obtain⟨l,o,f,k,_,rfl,h⟩:=h;exact h g
theorem NG{a:Nat}:∀(l:List (Nat×cV))(f:Nat->cV),(∀p∈l,p.1≠a)->ny f l a=f a
 | [],_,_=>rfl
 |p::l,f,h=>(NG l (iM f p.1 p.2) λq b=>h q (kT _ b)).trans (cX (pU (h p nB)))
theorem Wr.nw{d:Dv}(h:Wr A d e)(c:¬A a):e.nw a=d.nw a:=by obtain⟨l,o,f,k,b,rfl,_⟩:=h;grind[NG]
def D4(d:Dv):∃o,fm d= {d with ops:=o}:=by unfold fm;split<;>exact⟨_,ae⟩
def ZM(d:Dv)(i:Int):Wr A d (iq d i).1:=by obtain⟨o,h⟩:=D4 d;exact⟨[],o,d.left,d.df,by simp,by simp[iq,h,ny],id⟩
theorem wx(d:Dv):∃o f k,(iN (fm d)).1=⟨d.n,d.st,d.nw,d.ps,o,f,k⟩/\(d.al->(iN (fm d)).2=cx/\k=cy/\f= -1):=by obtain⟨o,h⟩:=D4 d;rw[h];unfold iN Dv.al;split<;>grind
theorem NH(d:Dv)(i:Int)(s:cV)(h:∀a:Nat,(a:Int)=i->A a):Wr A d (gw d i s).1/\((gw d i s).2=0->0<=i/\i<d.n/\(gw d i s).1.nw=iM d.nw i.m s)/\(d.al->0<=i->i<d.n->(gw d i s).2=0):=by obtain⟨o,f,k,e,j⟩:=wx d;obtain⟨o',l⟩:=D4 d;unfold gw L8;by_cases c:0<=i/\i<(d.n:Int);rw[c8 jH,e];split;refine⟨⟨[(i.m,s)],o,f,k,?_,by rfl,λg=>(j g).2⟩,λ_=>⟨c.1,c.2,ae⟩,by simp⟩;grind;exact⟨⟨[],o,f,k,by simp,by simp[ny],λg=>(j g).2⟩,by simp,by grind⟩;rw[cX jH,l];exact⟨⟨[],o',d.left,d.df,by simp,by simp[ny],id⟩,by simp,λ_ a b=>absurd ⟨a,b⟩ c⟩
structure PW(A:Nat->Prop)(s t:Pl):Prop where
 wr:Wr A s.dv t.dv
 st:t.cR=s.cR
 ba:t.base=s.base
theorem PW.refl{A:Nat->Prop}(s:Pl):PW A s s:=⟨.refl _,ae,ae⟩
theorem PW.trans{A:Nat->Prop}{s t u:Pl}(h:PW A s t)(g:PW A t u):PW A s u:=⟨h.wr.trans g.wr,g.st.trans h.st,g.ba.trans h.ba⟩
def PW.mono{B:Nat->Prop}{t:Pl}(h:PW A s t)(g:∀a,A a->B a):PW B s t:=⟨h.wr.mono g,h.st,h.ba⟩
theorem NI{A:Nat->Prop}(s:Pl)(q:cQ):PW A s (gz s q).1/\(gz s q).1.mp=s.mp:=by unfold gz;split;exact⟨.refl _,ae⟩;exact⟨⟨ZM _ q.1,ae,ae⟩,ae⟩
def GP(D:Nat->cV)(n:Nat)(q:cQ):Prop:=q=cY∨(q.1<n/\kZ (D q.1)=q.2.2)
def D5(D:Nat->cV)(q:cQ):cV:=if q=cY then fN else D q.1
theorem Ys(h:s.dv.df=cy)(g:GP s.dv.nw s.dv.n q):(gz s q).2=(D5 s.dv.nw q,0):=by unfold gz D5;split;rfl;rcases g with g|⟨g1,g2⟩<;>grind[iq,L8]
theorem aiU(h:(gz s q).2.2=0):GP s.dv.nw s.dv.n q/\(gz s q).2.1=D5 s.dv.nw q:=by unfold gz D5 GP iq L8 at*;grind
theorem VI{A:Nat->Prop}(s:Pl)(i:Int)(b:cV)(h:∀a:Nat,(a:Int)=i->A a):PW A s (kx s i b).1/\(kx s i b).1.mp=s.mp/\((kx s i b).2.2=0->0<=i/\i<s.dv.n/\(kx s i b).2.1=(i.m,s.cR,kZ (pD b))/\(kx s i b).1.dv.nw=iM s.dv.nw i.m (pD b))/\(s.dv.al->0<=i->i<s.dv.n->(kx s i b).2.2=0):=by have g:=NH (A:=A) s.dv i (pD b) h;unfold kx;refine⟨⟨g.1,ae,ae⟩,ae,λe=>?_,λa b c=>?_⟩;grind;grind
structure Put(s:Pl)(b:cV)(r:Pl×(cQ×Int)):Prop where
 fr:s.mp r.2.1.1=1
 lt:r.2.1.1<s.dv.n
 q:r.2.1=(r.2.1.1,s.cR,kZ (pD b))
 mp:r.1.mp=kE s.mp r.2.1.1 2
 nw:r.1.dv.nw=iM s.dv.nw r.2.1.1 (pD b)
theorem aeS(s:Pl)(b:cV):PW (λa=>s.mp a=1) s (tC s b).1/\((tC s b).2.2=0->Put s b (tC s b))/\(s.dv.al->b.n<=128->0<fI s.mp->(∀a,s.mp a=1->a<s.dv.n)->(tC s b).2.2=0):=by
 unfold tC;split;exact⟨.refl _,by simp,by grind⟩;split;next h=>exact⟨.refl _,by simp,λ_ _ c=>by grind [Cx]⟩
 next i h=>(have d:=(qu h).2.1;have g:=VI (A:=λa=>s.mp a=1) s i b λa e=>by grind);split;(next h2=>refine⟨⟨g.1.wr,g.1.st,g.1.ba⟩,λ_=>?_,λ_ _ _ _=>h2⟩;refine⟨?_,?_,?_,?_,?_⟩<;>simp only[(g.2.2.1 h2).2.2.1]<;>grind);grind
theorem q9(w:Nat):∀n,n<256^w->jM (qO w n)=n:=by
 induction w with
 |zero=>grind[qO,jM]
 |succ w ih=>
  intro n h;have e:qO (w+1) n=n%256::qO w (n/256):=by simp_all[qO,range_succ_eq_map,pow_succ',Nat.div_div_eq_div_mul]
  grind[jM]
theorem NJ{p:cQ}(h:dD p):AH (iT p)=p:=by unfold AH iT;have a:=gm 4 p.1;have b:=gm 8 p.2.1;simp only[take_append,drop_append,a,b,gm];simp[nV,Dc,a,b,gm];rw[q9 4 _ h.1,q9 8 _ h.2.1,q9 4 _ h.2.2]
theorem xu{p:cQ}(h:dD p)(r:im p=cx):nZ (iT p)=cu p:=by simp_all[nZ,NJ,gh]
theorem KE{l:Nat->cQ}{b:cV}(a:mW l=cu b)(f:∀i,i<8->dD (l i))(d:∀i,8<=i->l i=cY):b.n=128/\pY b=cu l:=by
 unfold mW at a;split at a
 . next ha=>
   cases a;have e:∀i,i<8->zP (mB l 8) i=iT (l i):=by
    intro i c;unfold zP mB;rcases(by omega:i=0∨i=1∨i=2∨i=3∨i=4∨i=5∨i=6∨i=7) with rfl|rfl|rfl|rfl|rfl|rfl|rfl|rfl<;>
     simp[range_succ,drop_append,take_append,(λi=>gh (l i)),Dc,nV]
   (have g:∀i,i<8->nZ (zP (mB l 8) i)=cu (l i):=λi c=>by grind[xu,KX]);refine⟨qY l 8,?_⟩;unfold pY;rw[c8 (by grind[okN])];congr 1;grind[EW,NJ]
 cases a
def nd(D:Nat->cV)(q:cQ):Nat->cQ:=if q=cY then mX else(pY (D q.1)).getD mX
def pt(D:Nat->cV)(r:cQ)(k:Nat):cQ:=if k=0 then r else if k<9 then nd D r (k-1) else if k<73 then nd D (nd D r ((k-9)/8)) ((k-9)%8) else cY
def par(k:Nat):Nat:=if k<9 then 0 else(k-9)/8+1
theorem aeT(D:Nat->cV)(r:cQ)(h:0<k)(a:k<73):pt D r k=nd D (pt D r (par k)) (if k<9 then k-1 else(k-9)%8):=by grind[pt,par]
theorem II(D:Nat->cV):nd D cY=mX:=c8 ae
theorem ahg(D:Nat->cV)(q:cQ){i:Nat}(h:8<=i):nd D q i=cY:=by unfold nd pY;split;rfl;split;exact cX cN;rfl
theorem xv{D E:Nat->cV}{q:cQ}(h:q≠cY->E q.1=D q.1):nd E q=nd D q:=by grind[nd]
theorem aeU{D:Nat->cV}(h:lI D)(q:cQ)(i:Nat):dD (nd D q i):=by unfold nd;split;exact dV;cases e:pY (D q.1) with|none=>exact dV|some l=>exact zS (h _) e i
theorem aeV{r:cQ}(h:∀k,k<9->pt D r k≠cY->E (pt D r k).1=D (pt D r k).1)(k:Nat):pt E r k=pt D r k:=by
 have a:nd E r=nd D r:=xv (h 0 cN);unfold pt;rw[a];split;rfl;split;rfl;split;next h1 h2 h3=>have:=h ((k-9)/8+1) cN;rw[xv (D:=D)];unfold pt at this;grind
 rfl
def GN(D:Nat->cV)(n:Nat)(q:cQ):Prop:=GP D n q/\(q≠cY->(pY (D q.1)).isSome=cx)
theorem NK:pY fN=cu mX:=by
 unfold pY;rw[c8 nF];congr 1;funext i;unfold EW mX;split;next h=>exact(show∀i:Fin 8,AH (zP fN i)=cY by decide+kernel) ⟨i,h⟩
 rfl
theorem Co(s:Pl)(q:cQ):PW A s (dw s q).1/\(dw s q).1.mp=s.mp:=by grind[NI,dw]
theorem SK(h:s.dv.df=cy)(g:GN s.dv.nw s.dv.n q):(dw s q).2=(nd s.dv.nw q,0):=by unfold dw nd;rw[Ys h g.1];unfold D5;by_cases a:q=cY;simp[a,NK];have:=g.2 a;grind
theorem Lo(h:(dw s q).2.2=0):(dw s q).2.1=nd s.dv.nw q:=by unfold dw at*;unfold nd;by_cases a:(gz s q).2.2=0;have e:=(aiU a).2;unfold D5 at e;simp only[a,ne_eq,yu,mS] at h|-;by_cases b:q=cY;simp_all[NK];grind;grind
theorem PW.nw{t:Pl}(h:PW A s t)(a:Nat)(b:¬A a):t.dv.nw a=s.dv.nw a:=h.wr.nw b
def IJ(s:Pl)(q:cQ)(i:Nat):PW A s (fB s q i).1/\(fB s q i).1.mp=s.mp:=by have h:=Co (A:=A) s q;have g:=Co (A:=A) (dw s q).1 ((dw s q).2.1 (i/8));unfold fB;split;exact h;split<;>exact⟨h.1.trans g.1,g.2.trans h.2⟩
theorem ahh(s:Pl)(q:cQ):(dw s q).1.dv.nw=s.dv.nw:=funext λa=>(Co (A:=λ_=>False) s q).1.nw a id
theorem ZO(h:(fB s q i).2.2=0):(fB s q i).2.1=⟨nd s.dv.nw q,nd s.dv.nw (nd s.dv.nw q (i/8)),nd s.dv.nw (nd s.dv.nw q (i/8)) (i%8)⟩:=by unfold fB at*;by_cases a:(dw s q).2.2=0;rw[cX cN] at h|-;have b:=Lo a;by_cases c:(dw (dw s q).1 ((dw s q).2.1 (i/8))).2.2=0;simp_all[Lo,ahh];grind;grind
def Kp(i k:Nat):Prop:=k=0∨k=1+i/8∨k=9+i
structure NL(s t:Pl)(q:cQ):Prop where
 fr:s.mp q.1=1
 tk:t.mp q.1=2
 bi:q.2.1=s.cR
 su:kZ (t.dv.nw q.1)=q.2.2
structure Ch(s t:Pl)(cO top:cQ)(i:Nat)(iW:List cQ):Prop where
 pw:PW (λa=>s.mp a=1) s t
 eS:∀k,¬Kp i k->pt t.dv.nw top k=pt s.dv.nw cO k
 new:∀k,Kp i k->pt t.dv.nw top k≠cY->NL s t (pt t.dv.nw top k)/\(k<9->(pY (t.dv.nw (pt t.dv.nw top k).1)).isSome=cx)
 inj:∀k l,Kp i k->Kp i l->pt t.dv.nw top k≠cY->pt t.dv.nw top l≠cY->(pt t.dv.nw top k).1=(pt t.dv.nw top l).1->k=l
 mp2:∀a,s.mp a≠1->t.mp a=s.mp a
 ZP:∀a,s.mp a=1->t.mp a=1∨(t.mp a=2/\∃k,Kp i k/\pt t.dv.nw top k≠cY/\(pt t.dv.nw top k).1=a)
 iW:∀q,q∈iW↔q≠cY/\∃k,Kp i k/\pt s.dv.nw cO k=q
def sU(n:Nat)(mp:Nat->Nat):Prop:=∀a,mp a<=3/\(mp a≠0↔4<=a/\a<n)
theorem EN(s:Pl)(l:Nat->cQ):PW (λa=>s.mp a=1) s (fE s l).1/\((fE s l).2.2=0->(∀i,i<8->dD (l i))->(∀i,8<=i->l i=cY)->∃b,Put s b (fE s l)/\pY b=cu l/\pD b=b/\∀x∈pD b,x<256)/\(s.dv.al->KX l 8=cx->0<fI s.mp->(∀a,s.mp a=1->a<s.dv.n)->(fE s l).2.2=0):=by unfold fE;cases h:mW l with|none=>exact⟨.refl _,by simp,λ_ a=>by grind[mW]⟩|some b=>grind[aeS,mW,qY,mB,pW,KE,Jk]
theorem Put.ne{b:cV}(h:Put s b r)(g:∀a,s.mp a=1->4<=a/\a<s.dv.n):r.2.1≠cY:=λe=>by have:=h.fr;grind[cY]
theorem aeW{D:Nat->cV}{q:cQ}{b:cV}{l:Nat->cQ}(a:q≠cY)(h:pY b=cu l):nd (iM D q.1 b) q=l:=by unfold nd iM;grind
theorem aeX{top bq:cQ}(j:i<64)(f:nd E top=jn (nd D cO) (i/8) q2)(g:nd E q2=jn (nd D (nd D cO (i/8))) (i%8) bq)(h:∀c,c<8->c≠i/8->nd E (nd D cO c)=nd D (nd D cO c))(k:Nat):
 pt E top k=if k=0 then top else if k=1+i/8 then q2 else if k=9+i then bq else pt D cO k:=by unfold pt;by_cases a:k=0;simp[a];by_cases b:k<9;rw[cX a,c8 b,cX a,f];unfold jn;grind;by_cases e:k<73;rw[cX a,cX b,c8 e,cX a,cX cN,f];by_cases d:(k-9)/8=i/8;rw[show jn (nd D cO) (i/8) q2 ((k-9)/8)=q2 from c8 d,g];unfold jn;grind;rw[show jn (nd D cO) (i/8) q2 ((k-9)/8)=nd D cO ((k-9)/8) from cX d,h _ cN d,cX cN,cX a,cX b,c8 e];grind
theorem ahX{t:Pl}{top bq:cQ}(u:i<64)(b:PW (λa=>s.mp a=1) s t)(v:∀k,k<9->pt s.dv.nw cO k≠cY->s.mp (pt s.dv.nw cO k).1≠1)(r:nd t.dv.nw top=jn (nd s.dv.nw cO) (i/8) q2)(p:nd t.dv.nw q2=jn (nd s.dv.nw (nd s.dv.nw cO (i/8))) (i%8) bq)(w:top≠cY->NL s t top/\(pY (t.dv.nw top.1)).isSome=cx)(x:q2≠cY->NL s t q2/\(pY (t.dv.nw q2.1)).isSome=cx)(y:bq≠cY->NL s t bq)(f:top≠cY->q2≠cY->top.1≠q2.1)(g:top≠cY->bq≠cY->top.1≠bq.1)(j:q2≠cY->bq≠cY->q2.1≠bq.1)(mp:∀a,t.mp a=if(top≠cY/\top.1=a)∨(q2≠cY/\q2.1=a)∨(bq≠cY/\bq.1=a) then 2 else s.mp a):
 Ch s t cO top i (lJ ⟨nd s.dv.nw cO,nd s.dv.nw (nd s.dv.nw cO (i/8)),nd s.dv.nw (nd s.dv.nw cO (i/8)) (i%8)⟩ cO i):=by
 have e:=aeX (D:=s.dv.nw) (E:=t.dv.nw) u r p λc hc _=>xv λh=>b.nw _ (by
  have:=v (c+1) cN;unfold pt at this;grind)
 have m:pt t.dv.nw top 0=top:=by rw[e];simp
 have n:pt t.dv.nw top (1+i/8)=q2:=by grind
 have o:pt t.dv.nw top (9+i)=bq:=by grind
 have z:pt s.dv.nw cO 0=cO:=rfl;have A:pt s.dv.nw cO (1+i/8)=nd s.dv.nw cO (i/8):=by unfold pt;grind
 have B:pt s.dv.nw cO (9+i)=nd s.dv.nw (nd s.dv.nw cO (i/8)) (i%8):=by unfold pt;grind
 refine⟨b,λk h=>?_,?_,?_,λa d=>?_,λa d=>?_,λq=>?_⟩;simp_all[Kp];rintro k (rfl|rfl|rfl) h;grind;grind;grind;rintro k l (rfl|rfl|rfl) (rfl|rfl|rfl) h1 h2 h3<;>simp only[m,n,o] at h1 h2 h3<;>grind;rw[mp,cX];rintro(⟨h,rfl⟩|⟨h,rfl⟩|⟨h,rfl⟩);exact d (w h).1.fr;exact d (x h).1.fr;exact d (y h).fr;rw[mp];split;(next h=>refine .inr ⟨ae,?_⟩;rcases h with h|h|h;exact⟨0,.inl ae,by grind⟩;exact⟨1+i/8,.inr aD,by grind⟩;exact⟨9+i,.inr ax,by grind⟩);omega;unfold lJ Kp;grind
theorem Lp{c:Nat}(a:lI D)(d:dD p)(hc:c<8):(∀i,i<8->dD (jn (nd D q) c p i))/\∀i,8<=i->jn (nd D q) c p i=cY:=by unfold jn;exact⟨λi _=>by grind[aeU],λi b=>by rw[cX cN];grind[ahg]⟩
theorem Put.parts{b:cV}(h:Put s b r)(d:gU s.cR)(e:∀a,s.mp a=1->4<=a/\a<s.dv.n)(f:s.dv.n<=1024)(c:∀x∈pD b,x<256):dD r.2.1:=by rw[h.q];exact⟨by have:=h.lt;omega,d,Du _ c⟩
theorem PW.nn{t:Pl}(h:PW (λ_=>False) s t):t.dv.nw=s.dv.nw:=funext λa=>h.nw a id
theorem Put.fit{b:cV}(h:Put s b r)(c:sU s.dv.n s.mp):sU s.dv.n r.1.mp:=by intro a;have:=c a;have:=c r.2.1.1;have:=h.fr;rw[h.mp];grind[kE]
theorem SL(Q:lI s.dv.nw)(V:gU s.cR)(F:s.dv.n<=1024)(F:sU s.dv.n s.mp)(R:∀k,k<9->pt s.dv.nw cO k≠cY->s.mp (pt s.dv.nw cO k).1≠1){i:Int}{b:cV}(I:∀x∈b,x<256):
 PW (λa=>s.mp a=1) s (lh s cO i b).1/\((lh s cO i b).2.2.2=0->0<=i/\i<64/\Ch s (lh s cO i b).1 cO (lh s cO i b).2.1 i.m (lh s cO i b).2.2.1/\(lh s cO i b).1.dv.nw (pt (lh s cO i b).1.dv.nw (lh s cO i b).2.1 (9+i.m)).1=pD b):=by
 have r:=IJ (A:=λa=>s.mp a=1) s cO i.m;have H:=(IJ (A:=λ_=>False) s cO i.m).1.nn;have t:=ZO (s:=s) (q:=cO) (i:=i.m);have J:∀a,s.mp a=1->4<=a/\a<s.dv.n:=λa h=>(F a).2.1 cN;unfold lh;split;exact bF
 next hi=>
 split
 . exact bF
 next hl=>
 generalize fB s cO i.m=W at*;obtain⟨w,y,c⟩:=W;simp only at r t H|-;split
 . grind
 next h0=>
 split
 . grind
 have F:w.dv.n=s.dv.n:=r.1.wr.n;have F:=r.1.st;have u:=aeS w b;rw[r.2] at u;generalize tC w b=P at*;obtain⟨s2,bq,F⟩:=P;simp only at u|-;have e:=r.1.trans u.1;split
 . grind
 next h2=>
 have g:=u.2.1 cN;have v:s2.mp=kE s.mp bq.1 2:=by have:=g.mp;grind
 obtain rfl:=t cN;have f:=EN s2 (jn (nd s.dv.nw (nd s.dv.nw cO (i.m/8))) (i.m%8) bq);simp only at f|-;generalize fE s2 (jn (nd s.dv.nw (nd s.dv.nw cO (i.m/8))) (i.m%8) bq)=U at*;obtain⟨d,q2,F⟩:=U;simp only at f|-;have n:=e.trans (f.1.mono λa h=>by rw[v] at h;grind[kE]);split
 . grind
 next h3=>
 have F:s2.dv.n=s.dv.n:=e.wr.n;have g2:=Lp (q:=nd s.dv.nw cO (i.m/8)) Q (g.parts jH amm cN (G9 cN I).2) (c:=i.m%8) cN;obtain⟨z,j,F,l2,H⟩:=f.2.1 cN g2.1 g2.2;have I:d.mp=kE s2.mp q2.1 2:=j.mp;have m:sU s2.dv.n s2.mp:=by have:=g.fit jH;grind
 have G:=EN d (jn (nd s.dv.nw cO) (i.m/8) q2);generalize fE d (jn (nd s.dv.nw cO) (i.m/8) q2)=T at*;obtain⟨l,top,F⟩:=T;simp only at G|-;have o:=n.trans (G.1.mono λa h=>by rw[I,v] at h;grind[kE]);split
 . grind
 next h4=>
 have F:d.dv.n=s.dv.n:=n.wr.n;have g3:=Lp (q:=cO) Q (j.parts (by rw[e.st];exact V) (λa h=>(m a).2.1 cN) cN H) (c:=i.m/8) (by grind[mY]);obtain⟨B,p,F,F,_⟩:=G.2.1 cN g3.1 g3.2;have F:sU d.dv.n d.mp:=by have:=j.fit m;grind
 have V:0<=i/\i<64:=by grind[mY]
 refine⟨o,λ_=>⟨V.1,V.2,?_⟩⟩
 have H:=j.fr;have J:=p.fr;have U:=g.ne amm;have U:=j.ne (λa h=>(m a).2.1 cN);have U:=p.ne (λa h=>(F a).2.1 cN);have w1:s2.dv.nw=iM s.dv.nw bq.1 (pD b):=by have:=g.nw;grind
 have w2:d.dv.nw=iM s2.dv.nw q2.1 z:=by have:=j.nw;grind
 have X:l.dv.nw=iM d.dv.nw top.1 B:=by have:=p.nw;grind
 have U:l.mp=kE d.mp top.1 2:=p.mp;have Z:bq.2.1=w.cR/\bq.2.2=kZ (pD b):=⟨gQ (·.2.1) g.q,gQ (·.2.2) g.q⟩;have d2:q2.2.1=s2.cR/\q2.2.2=kZ z:=⟨gQ (·.2.1) j.q,by have:=gQ (·.2.2) j.q;grind⟩;have M:top.2.1=d.cR/\top.2.2=kZ B:=⟨gQ (·.2.1) p.q,by have:=gQ (·.2.2) p.q;grind⟩;simp only[v,I,kE] at H J;have J:q2.1≠bq.1:=by grind
 have K:top.1≠bq.1:=by grind
 have L:top.1≠q2.1:=by grind
 have C:s.mp q2.1=1:=by grind
 have E:s.mp top.1=1:=by grind
 have Y:l.dv.nw bq.1=pD b:=by rw[X,w2,w1];grind[iM]
 have H:l.dv.nw q2.1=z:=by rw[X,w2,w1];grind[iM]
 have V:l.dv.nw top.1=B:=by simp_all[iM]
 have O:nd l.dv.nw top=jn (nd s.dv.nw cO) (i.m/8) q2:=by grind[aeW]
 have N:nd l.dv.nw q2=jn (nd s.dv.nw (nd s.dv.nw cO (i.m/8))) (i.m%8) bq:=by
  simp_all[nd]
 have F:∀a,l.mp a=if top.1=a∨q2.1=a∨bq.1=a then 2 else s.mp a:=by intro a;rw[U,I,v];grind[kE]
 refine⟨ahX cN o R O N (λ_=>⟨⟨E,?_,?_,?_⟩,?_⟩) (λ_=>⟨⟨C,?_,?_,?_⟩,?_⟩) (λ_=>⟨(by have:=g.fr;grind),?_,?_,?_⟩) (λ_ _=>L) (λ_ _=>K) (λ_ _=>J) (λa=>?_),?_⟩
 . grind
 . exact M.1.trans n.st
 . rw[V,M.2]
 . grind
 . grind
 . exact d2.1.trans e.st
 . rw[H,d2.2]
 . grind
 . grind
 . omega
 . rw[Y,Z.2]
 . grind
 . rw[aeX (D:=s.dv.nw) cN O N (λc hc _=>xv λh=>o.nw _ (by
    have:=R (c+1) cN;unfold pt at this;grind)),cX cN,cX cN,c8 ae,Y]
theorem Qw{l:Nat->cQ}(h:rR l=cx)(g:∀i,8<=i->l i=cY):l=mX:=by funext i;by_cases a:i<8;simp_all[rR,Zc];simp_all[mX]
structure Sav(s t:Pl)(l:Nat->cQ)(q:cQ):Prop where
 pw:PW (λa=>s.mp a=1) s t
 nd:nd t.dv.nw q=l
 new:q≠cY->NL s t q/\(pY (t.dv.nw q.1)).isSome=cx
 nw:∀a,¬(q≠cY/\q.1=a)->t.dv.nw a=s.dv.nw a
 mp:∀a,t.mp a=if q≠cY/\q.1=a then 2 else s.mp a
 parts:dD q
theorem Sav.map{t:Pl}{l:Nat->cQ}(h:Sav s t l q)(c:sU s.dv.n s.mp):sU t.dv.n t.mp:=by
 intro a;have:=c a;rw[h.mp,h.pw.wr.n];split;next e=>obtain⟨b,rfl⟩:=e;have:=(h.new b).1.fr;grind
 omega
theorem aiV{s:Pl}:Sav s s mX cY:=⟨.refl _,II _,by simp,by simp,by simp,dV⟩
theorem SM{s:Pl}(n:gU s.cR)(m:s.dv.n<=1024)(j:sU s.dv.n s.mp){l:Nat->cQ}(d:∀i,i<8->dD (l i))(f:∀i,8<=i->l i=cY)(h:(fE s l).2.2=0):Sav s (fE s l).1 l (fE s l).2.1:=by
 have g:=EN s l;obtain⟨b,p,r,e,x⟩:=g.2.1 h d f;have c:∀a,s.mp a=1->4<=a/\a<s.dv.n:=λa h=>(j a).2.1 cN;have k:=p.ne c;have w:=p.nw;rw[e] at w;have z:(fE s l).1.dv.nw (fE s l).2.1.1=b:=by rw[w];simp[iM]
 refine⟨g.1,by grind[aeW],λ_=>⟨⟨p.fr,by rw[p.mp];simp[kE],gQ (·.2.1) p.q,?_⟩,by rw[z,r];rfl⟩,λa o=>?_,λa=>?_,p.parts n c m x⟩;rw[z];have:=gQ (·.2.2) p.q;grind;rw[w];grind[iM];rw[p.mp];grind[kE]
def NL.on{t:Pl}(h:NL s t q)(b:u.dv.nw q.1=t.dv.nw q.1)(a:u.mp q.1=t.mp q.1):NL s u q:=⟨h.fr,a.trans h.tk,h.bi,by rw[b];exact h.su⟩
def NL.back{t:Pl}(h:NL t u q)(b:t.cR=s.cR)(a:s.mp q.1=1):NL s u q:=⟨a,h.tk,h.bi.trans b,h.su⟩
theorem aeY{t:Pl}{top:cQ}(j:i<64)(l:∀k,k<9->pt s.dv.nw cO k≠cY->s.mp (pt s.dv.nw cO k).1≠1)(h:Sav s t (jn (nd s.dv.nw (nd s.dv.nw cO (i/8))) (i%8) cY) q2)(g:Sav t u (jn (nd s.dv.nw cO) (i/8) q2) top):
 Ch s u cO top i (lJ ⟨nd s.dv.nw cO,nd s.dv.nw (nd s.dv.nw cO (i/8)),nd s.dv.nw (nd s.dv.nw cO (i/8)) (i%8)⟩ cO i):=by
 have d:top≠cY->q2≠cY->top.1≠q2.1:=λa b e=>by have f:=(g.new a).1.fr;rw[h.mp] at f;grind
 have c:∀a,t.mp a=1->s.mp a=1:=λa e=>by rw[h.mp] at e;grind
 have k:q2≠cY->u.dv.nw q2.1=t.dv.nw q2.1:=λb=>g.nw _ λe=>d e.1 b e.2;refine ahX (bq:=cY) j (h.pw.trans (g.pw.mono c)) l g.nd ((xv k).trans h.nd) (λa=>⟨(g.new a).1.back h.pw.st (c _ (g.new a).1.fr),(g.new a).2⟩)
  (λb=>⟨(h.new b).1.on (k b) ?_,by rw[k b];exact(h.new b).2⟩) eQ d eQ eQ λa=>?_
 rw[g.mp,cX λe=>d e.1 b e.2];rw[g.mp,h.mp];grind
def Ch.quiet{t:Pl}{top:cQ}(q:PW (λ_=>False) s t)(m:t.mp=s.mp)(h:Ch t u cO top i iW):Ch s u cO top i iW:=by have e:=q.nn;refine⟨(q.mono λa h=>h.elim).trans (m▸h.pw),λk c=>e▸h.eS k c,λk c b=>⟨(h.new k c b).1.back q.st (m▸(h.new k c b).1.fr),(h.new k c b).2⟩,h.inj,λa d=>m▸h.mp2 a (m▸d),λa d=>h.ZP a (m▸d),λa=>e▸h.iW a⟩
theorem ab1(x:lI s.dv.nw)(B:gU s.cR)(A:s.dv.n<=1024)(z:sU s.dv.n s.mp)(o:∀k,k<9->pt s.dv.nw cO k≠cY->s.mp (pt s.dv.nw cO k).1≠1)(n:i<64){y:Way}(r:y=⟨nd s.dv.nw cO,nd s.dv.nw (nd s.dv.nw cO (i/8)),nd s.dv.nw (nd s.dv.nw cO (i/8)) (i%8)⟩):
 PW (λa=>s.mp a=1) s (om s y cO i).1/\((om s y cO i).2.2.2=0->Ch s (om s y cO i).1 cO (om s y cO i).2.1 i (om s y cO i).2.2.1/\pt (om s y cO i).1.dv.nw (om s y cO i).2.1 (9+i)=cY):=by
 have j:∀{t u:Pl}{q2 top:cQ},Sav s t (jn (nd s.dv.nw (nd s.dv.nw cO (i/8))) (i%8) cY) q2->Sav t u (jn (nd s.dv.nw cO) (i/8) q2) top->Ch s u cO top i (lJ y cO i)/\pt u.dv.nw top (9+i)=cY:=by
  intro t u q2 top h g;rw[r];refine⟨aeY n o h g,?_⟩;have c:=aeY n o h g;have d:q2≠cY->u.dv.nw q2.1=t.dv.nw q2.1:=λb=>g.nw _ λe=>by
   have l:=(g.new e.1).1.fr;rw[h.mp] at l;grind
  rw[aeX (D:=s.dv.nw) n g.nd ((xv d).trans h.nd) (λC hc _=>xv λh=>c.pw.nw _ (by
   have:=o (C+1) cN;unfold pt at this;grind)),cX cN,cX cN,c8 ae]
 have v:y.first=nd s.dv.nw cO:=by rw[r]
 have E:y.mE=nd s.dv.nw (nd s.dv.nw cO (i/8)):=by rw[r]
 have g2:=Lp (q:=nd s.dv.nw cO (i/8)) x dV (c:=i%8) cN;have w:=λq2(h:dD q2)=>Lp (q:=cO) x h (c:=i/8) cN;have H:∀q2,jn (jn y.first (i/8) cY) (i/8) q2=jn (nd s.dv.nw cO) (i/8) q2:=λq2=>by rw[v];grind[jn]
 unfold om;simp only[E,H];rw[v];by_cases m:rR (jn (nd s.dv.nw (nd s.dv.nw cO (i/8))) (i%8) cY)=cx;(have s2:Sav s s (jn (nd s.dv.nw (nd s.dv.nw cO (i/8))) (i%8) cY) cY:=by grind[Qw,aiV]);by_cases l:rR (jn (nd s.dv.nw cO) (i/8) cY)=cx;(have I:Sav s s (jn (nd s.dv.nw cO) (i/8) cY) cY:=by grind[Qw,dV]);simp only[l,m,oQ,vz,mS,ne_eq,yu,ug,(by decide:¬(0:Nat)=2)];exact⟨.refl _,λ_=>j s2 I⟩;simp only[l,m,oQ,mS,ne_eq,yu,zD,(by decide:¬(1:Nat)=2),Ly];split;exact bF;grind[EN,SM,dV];simp only[m,oQ,mS,ne_eq,Ly,(by decide:(0:Nat)<2)];split;exact bF;have p:=EN s (jn (nd s.dv.nw (nd s.dv.nw cO (i/8))) (i%8) cY);split;grind;next h=>have f:=SM B A z g2.1 g2.2 cN;generalize fE s (jn (nd s.dv.nw (nd s.dv.nw cO (i/8))) (i%8) cY)=U at*;have F:=EN U.1 (jn (nd s.dv.nw cO) (i/8) U.2.1);have G:=p.1.trans (F.1.mono λa e=>by rw[f.mp] at e;grind);split;grind;next h=>exact⟨G,λ_=>j f (SM (by rw[f.pw.st];exact B) (by rw[f.pw.wr.n];exact A) (f.map z) (w _ f.parts).1 (w _ f.parts).2 cN)⟩
theorem Lq(r:lI s.dv.nw)(o:gU s.cR)(v:s.dv.n<=1024)(u:sU s.dv.n s.mp)(t:∀k,k<9->pt s.dv.nw cO k≠cY->s.mp (pt s.dv.nw cO k).1≠1){i:Int}:
 PW (λa=>s.mp a=1) s (iF s cO i).1/\((iF s cO i).2.2.2=0->0<=i/\i<64/\(Ch s (iF s cO i).1 cO (iF s cO i).2.1 i.m (iF s cO i).2.2.1/\pt (iF s cO i).1.dv.nw (iF s cO i).2.1 (9+i.m)=cY∨
  (iF s cO i).1.mp=s.mp/\(iF s cO i).1.dv.nw=s.dv.nw/\(iF s cO i).2.1=cO/\(iF s cO i).2.2.1=[]/\pt s.dv.nw cO (9+i.m)=cY)):=by
 have b:=IJ (A:=λa=>s.mp a=1) s cO i.m;have f:=(IJ (A:=λ_=>False) s cO i.m).1;have j:=f.nn;have e:=ZO (s:=s) (q:=cO) (i:=i.m);unfold iF;split;exact bF
 next hi=>
 have l:0<=i/\i<64:=by grind[mY]
 generalize fB s cO i.m=W at*;obtain⟨⟨n,w,x,m⟩,y,c⟩:=W;simp only at b e j f|-;obtain rfl:=b.2;have d:=b.1.st;simp only at d;subst d;split;grind
 next h0=>
 obtain rfl:=e cN;have p:pt s.dv.nw cO (9+i.m)=nd s.dv.nw (nd s.dv.nw cO (i.m/8)) (i.m%8):=by unfold pt;grind
 split;grind;have g:=ab1 (s:=⟨n,s.mp,s.cR,m⟩) jH o (by have:=b.1.wr.n;omega) (by have:=b.1.wr.n;grind) (cO:=cO) jH (i:=i.m) cN (y:=⟨nd s.dv.nw cO,nd s.dv.nw (nd s.dv.nw cO (i.m/8)),nd s.dv.nw (nd s.dv.nw cO (i.m/8)) (i.m%8)⟩) jH;exact⟨b.1.trans g.1,λh=>⟨l.1,l.2,.inl ⟨(g.2 h).1.quiet f ae,(g.2 h).2⟩⟩⟩
def ahi(D:Nat->cV)(st:Nat)(q:cQ):List cQ:=if jY q st=cx then q:: (mq (nd D q)).filter (jY · st) else []
theorem aeZ(st:Nat)(x:Pl×(List cQ×Int))(q:cQ):PW (λ_=>False) x.1 (jU st x q).1/\(jU st x q).1.mp=x.1.mp/\((jU st x q).2.2=0->x.2.2=0/\(jU st x q).2.1=x.2.1++ahi x.1.dv.nw st q)/\(x.1.dv.df=cy->GN x.1.dv.nw x.1.dv.n q->x.2.2=0->(jU st x q).2.2=0/\(jU st x q).1.dv.df=cy):=by
 have h:=Co (A:=λ_=>False) x.1 q;have g:=Lo (s:=x.1) (q:=q);have k:=λa=>SK (s:=x.1) (q:=q) a;have b:(dw x.1 q).1.dv.df=x.1.dv.df:=by grind[dw,gz,iq,fm]
 unfold jU ahi;split;next h0=>exact⟨.refl _,ae,λh=>absurd h h0,λ_ _ h=>absurd h h0⟩
 next h0=>
 split;next h1=>exact⟨.refl _,ae,λh=>⟨h,by simp[h1]⟩,λa _ c=>⟨c,a⟩⟩
 grind
theorem ae0(st:Nat):∀(l:List cQ)(x:Pl×(List cQ×Int)),PW (λ_=>False) x.1 (uj st l x).1/\(uj st l x).1.mp=x.1.mp/\((uj st l x).2.2=0->x.2.2=0/\(uj st l x).2.1=x.2.1++l.flatMap (ahi x.1.dv.nw st))/\(x.1.dv.df=cy->(∀q∈l,GN x.1.dv.nw x.1.dv.n q)->x.2.2=0->(uj st l x).2.2=0)
 | [],x=>⟨.refl _,ae,λh=>⟨h,by simp[uj]⟩,λ_ _ h=>h⟩
 |q::l,x=>by
  have h:=aeZ st x q;have g:=ae0 st l (jU st x q);have e:uj st (q::l) x=uj st l (jU st x q):=rfl;rw[e];refine⟨h.1.trans g.1,g.2.1.trans h.2.1,λa=>?_,λa b c=>?_⟩
  . have f:=g.2.2.1 a;have d:=h.2.2.1 f.1;exact⟨d.1,by rw[f.2,d.2,h.1.nn,Bu,xJ]⟩
  . have d:=h.2.2.2 a (b q nB) c;refine g.2.2.2 d.2 (λj i=>?_) d.1;rw[h.1.nn,h.1.wr.n];grind
def ae1(D:Nat->cV)(r:cQ):Prop:=∀k,0<k->k<73->pt D r k≠cY->(pt D r k).2.1<=(pt D r (par k)).2.1
theorem uD(q:cQ)(st:Nat):jY q st=cx↔q≠cY/\st<q.2.1:=by grind[jY]
theorem zr(s:Pl)(cO:cQ)(st:Nat):PW (λ_=>False) s (fR s cO st).1/\(fR s cO st).1.mp=s.mp/\((fR s cO st).2.2=0->ae1 s.dv.nw cO->∀q,q∈(fR s cO st).2.1↔∃k,k<73/\pt s.dv.nw cO k=q/\q≠cY/\st<q.2.1)/\(s.dv.df=cy->(∀k,k<9->GN s.dv.nw s.dv.n (pt s.dv.nw cO k))->(fR s cO st).2.2=0):=by
 have h:=Co (A:=λ_=>False) s cO;have y:(dw s cO).1.dv.df=s.dv.df:=by grind[dw,gz,iq,fm]
 have g:=ae0 st (mq (dw s cO).2.1) ((dw s cO).1,([cO],0));have D:∀q,st<q.2.1->q≠cY->ae1 s.dv.nw cO->(∃k,k<73/\pt s.dv.nw cO k=q)->st<cO.2.1:=by rintro q o f m ⟨k,r,rfl⟩;rcases vM k with rfl|n;exact o;have a:=m k n r f;by_cases l:k<9;rw[show par k=0 from c8 l] at a;exact pK o a;(have v:par k=(k-9)/8+1:=cX l;have i:pt s.dv.nw cO (par k)≠cY:=λe=>by rw[aeT _ _ n r,e,II] at f;exact f ae);have b:=m (par k) cN cN i;rw[show par (par k)=0 from c8 cN] at b;have:pt s.dv.nw cO 0=cO:=rfl;grind
 unfold fR;split;next o=>refine⟨.refl _,ae,λ_ m q=>⟨by simp,?_⟩,λ_ _=>ae⟩;grind[uD,cY]
 next o=>
 have w:=(uD cO st).1 jH;split;next f=>exact⟨h.1,h.2,by simp[f],λa b=>by have:=SK a (b 0 cN);change(dw s cO).2=_ at this;grind⟩
 next f=>have x:=Lo (s:=s) (q:=cO) cN;refine⟨h.1.trans g.1,g.2.1.trans h.2,λe m q=>?_,λa b=>?_⟩;rw[(g.2.2.1 e).2,x,h.1.nn];simp only[singleton_append,iX,De,mq,gT,zA,ahi];constructor;rintro(rfl|⟨_,⟨c,hc,rfl⟩,d⟩);exact⟨0,cN,ae,w.1,w.2⟩;(have t:pt s.dv.nw cO (c+1)=nd s.dv.nw cO c:=by unfold pt;grind);split at d;(next i=>have z:=(uD _ _).1 i;rcases iX.1 d with rfl|d;grind;obtain⟨d,p⟩:=Ax.1 d;obtain⟨j,u,rfl⟩:=gT.1 d;have u:=zA.1 u;have p:=(uD _ _).1 p;refine⟨9+8*c+j,cN,?_,p.1,p.2⟩;unfold pt;grind);cases d;rintro⟨k,r,rfl,d,C⟩;by_cases n:k=0;subst n;exact .inl ae;right;by_cases B:k<9;(have t:pt s.dv.nw cO k=nd s.dv.nw cO (k-1):=by simp_all[pt]);refine⟨_,⟨k-1,cN,ae⟩,?_⟩;simp_all[uD];(have t:pt s.dv.nw cO k=nd s.dv.nw (nd s.dv.nw cO ((k-9)/8)) ((k-9)%8):=by simp_all[pt,cX]);(refine⟨_,⟨(k-9)/8,cN,ae⟩,?_⟩;have v:pt s.dv.nw cO (par k)=nd s.dv.nw cO ((k-9)/8):=by unfold par pt;grind);(have i:nd s.dv.nw cO ((k-9)/8)≠cY:=λe=>by rw[t,e,II] at d;exact d ae);have b:=m k cN r d;rw[v] at b;rw[c8 ((uD _ _).2 ⟨i,cN⟩)];grind[uD];refine g.2.2.2 (y.trans a) (λq d=>?_) ae;rw[x] at d;obtain⟨c,hc,rfl⟩:=gT.1 d;have hc:=zA.1 hc;have:=b (c+1) cN;rw[show pt s.dv.nw cO (c+1)=nd s.dv.nw cO c by unfold pt;grind] at this;show GN (dw s cO).1.dv.nw (dw s cO).1.dv.n _;rw[h.1.nn,h.1.wr.n];exact this
structure wO(base:Nat)(l:List cQ)(m m':Nat->Nat):Prop where
 two:∀a,m' a=2↔m a=2/\∀q∈l,q≠cY->q.1≠a
 one:∀a,m' a=1->m a=1∨(m a=2/\∃q∈l,q.1=a/\base<q.2.1)
 aiW:∀a,m a=1->m' a=1
 zero:∀a,m' a=0↔m a=0
 le:(∀a,m a<=3)->∀a,m' a<=3
theorem drop_one(s:Pl)(q:cQ)(h:q.1<1024):wO s.base [q] s.mp (pZ s q).1.mp/\(pZ s q).1.dv=s.dv/\(pZ s q).1.base=s.base/\(pZ s q).1.cR=s.cR:=by
 have e:∀v,sO s.mp q.1 2 v=λa=>if a=q.1/\s.mp a=2 then v else s.mp a:=λv=>by
  funext a;have c:isB s.mp (q.1:Int) 2=decide (s.mp q.1=2):=by grind[isB]
  unfold sO kE;rw[c];by_cases e:s.mp q.1=2<;>simp[e]<;>grind
 unfold pZ;rw[e,e];split;next h0=>exact⟨⟨by grind,λ_ h=>.inl h,λ_ h=>h,λ_=>.rfl,id⟩,ae,ae,ae⟩
 split;exact ant;exact ant
theorem wO.trans{base:Nat}{l k:List cQ}{a b c:Nat->Nat}(h:wO base l a b)(g:wO base k b c):wO base (l++k) a c:=by refine⟨λx=>?_,λx e=>?_,λx e=>g.aiW x (h.aiW x e),λx=>(g.zero x).trans (h.zero x),λe=>g.le (h.le e)⟩;rw[g.two,h.two];simp_all[or_imp,forall_and,and_assoc];rcases g.one x e with e|⟨e,q,hq,h1⟩;rcases h.one x e with e|⟨e,q,hq,h1⟩<;>grind;exact .inr ⟨((h.two x).1 e).1,q,FT _ hq,h1⟩
def rf:∀(l:List cQ)(s:Pl),(∀q∈l,q.1<1024)->wO s.base l s.mp (dM s l).mp/\(dM s l).dv=s.dv/\(dM s l).base=s.base/\(dM s l).cR=s.cR
 | [],s,_=>⟨⟨by simp[dM],λ_ h=>.inl h,λ_ h=>h,λ_=>.rfl,λh=>h⟩,ae,ae,ae⟩
 |q::l,s,h=>by
  have a:=drop_one s q (h q nB);have b:=rf l (pZ s q).1 λp c=>h p (kT _ c);rw[a.2.2.1] at b;exact⟨a.1.trans b.1,b.2.1.trans a.2.1,b.2.2.1,b.2.2.2.trans a.2.2.2⟩
def CX(top:Nat)(s:du):Nat:=if s.dz=cx then s.cR else top
def Up(M:du->Prop)(s:du)(b:Nat):Prop:=∃p,M p/\p.id=s.dB/\b<=p.cR
structure TI(f:cQ->Nat->cQ)(top:Nat)(M:du->Prop):Prop where
 id:∀{s t},M s->M t->s.id=t.id->s=t
 pos:∀{s},M s->s.id≠0
 st:∀{s},M s->s.dz=cx->s.cR<top
 bt:∀{s k},M s->f s.cO k≠cY->1<=(f s.cO k).2.1/\(f s.cO k).2.1<=CX top s
 wy:∀{s t k l},M s->M t->f s.cO k≠cY->f t.cO l≠cY->(f s.cO k).1=(f t.cO l).1->k=l/\f s.cO k=f t.cO l
 GA:∀{s t k},M s->M t->s≠t->f s.cO k=f t.cO k->f s.cO k≠cY->Up M s (f s.cO k).2.1∨Up M t (f s.cO k).2.1
 pr:∀{s},M s->s.dB≠0->∃p,M p/\p.id=s.dB/\p.dz=cx/\p.cR<CX top s
 iW:∀{s p k},M s->M p->p.id=s.dB->f s.cO k≠cY->(f s.cO k).2.1<=p.cR->f p.cO k=f s.cO k
 df:∀{s p q},M s->M p->p.id=s.dB->(q∈s.df↔q≠cY/\∃k,f p.cO k=q/\f s.cO k≠q)
 z7:∀{s},M s->s.dB=0->s.df=[]
def Re(f:cQ->Nat->cQ)(M:du->Prop)(a:Nat):Prop:=∃s k,M s/\f s.cO k≠cY/\(f s.cO k).1=a
section
theorem TI.up(T:TI f top M){s:du}(c:M s)(g:f s.cO k≠cY)(h:Up M s (f s.cO k).2.1):∃p,M p/\p.id=s.dB/\p.dz=cx/\p.cR<CX top s/\f p.cO k=f s.cO k:=by obtain⟨p,a,e,l⟩:=h;obtain⟨m,b,d,i,j⟩:=T.pr c (by rw[<-e];exact T.pos a);obtain rfl:=T.id a b (e.trans d.symm);exact⟨p,a,e,i,j,T.iW c a e g l⟩
theorem TI.child(T:TI f top M){s:du}(b:M s)(a:f s.cO k≠cY)(m:¬Up M s (f s.cO k).2.1):∀(n:Nat)(t:du),CX top t<=n->M t->f t.cO k=f s.cO k->t≠s->∃c,M c/\c.dB=s.id/\f c.cO k=f s.cO k
 |0,t,hn,ht,e,hne=>by
  obtain h|h:=T.GA b ht (pU hne) e.symm a
  . grind
  . rw[<-e] at h a;obtain⟨p,_,_,_,g,_⟩:=T.up ht a h;omega
 |n+1,t,hn,ht,e,hne=>by
  obtain h|h:=T.GA b ht (pU hne) e.symm a
  . grind
  . rw[<-e] at h;obtain⟨p,l,o,d,g,i⟩:=T.up ht jH h;by_cases j:p=s
    . grind
    . refine T.child b a m n p ?_ l (i.trans e) j;have:CX top p=p.cR:=c8 d;omega
def TI.alone(T:TI f top M){s:du}(a:M s)(q:s.dz=cy)(d:f s.cO k≠cY)(o:¬Up M s (f s.cO k).2.1)(i:M t){l:Nat}(j:f t.cO l≠cY)(e:(f t.cO l).1=(f s.cO k).1):t=s:=by obtain⟨rfl,e⟩:=T.wy i a j d e;apply Ae;intro b;obtain⟨c,hc,g,_⟩:=T.child a d o _ t (eN _) i e b;obtain⟨p,n,m,h,_⟩:=T.pr hc (by rw[g];exact T.pos a);rw[T.id n a (m.trans g),q] at h;cases h
end
section
def TI.akh(T:TI f top M){s:du}(h:s.dB=0)(b:Nat):¬Up M s b:=λ⟨p,hp,e,_⟩=>T.pos hp (e.trans h)
theorem TI.add(T:TI f top M){s:du}(z:s.dz=cy)(r:s.id≠0)(v:∀t,M t->t.id≠s.id/\t.dB≠s.id)(w:s.dB≠s.id)(o:s.df=[])
 (h:(s.dB=0/\∀k,f s.cO k=cY)∨∃p,M p/\p.dz=cx/\p.id=s.dB/\s.cO=p.cO):TI f top (λt=>M t∨t=s):=by
 have up:∀t b,Up M t b->Up (λt=>M t∨t=s) t b:=λt b ⟨p,a,h⟩=>⟨p,.inl a,h⟩;have j:∀k,f s.cO k≠cY->∃p,M p/\p.dz=cx/\p.id=s.dB/\s.cO=p.cO/\(f s.cO k).2.1<=p.cR:=λk n=>by rcases h with⟨_,h⟩|⟨p,a,c,d,g⟩;grind;have:=T.bt a (k:=k) jH;unfold CX at this;grind
 refine⟨?_,?_,?_,?_,?_,?_,?_,?_,?_,?_⟩;rintro x y (hx|rfl) (hy|rfl) e;exact T.id hx hy e;grind;grind;rfl;rintro x (hx|rfl);exact T.pos hx;exact r;rintro x (hx|rfl) hs;exact T.st hx hs;grind;rintro x k (hx|rfl) n;exact T.bt hx n;obtain⟨p,a,c,d,g,m⟩:=j k n;have:=T.bt a (k:=k) jH;rw[<-g] at this;have:=T.st a c;grind[CX];rintro x y k l (hx|rfl) (hy|rfl) c d e;exact T.wy hx hy c d e;obtain⟨p,a,_,_,g,_⟩:=j l d;rw[g] at d e|-;exact T.wy hx a c d e;obtain⟨p,a,_,_,g,_⟩:=j k c;rw[g] at c e|-;exact T.wy a hy c d e;obtain⟨p,a,_,_,g,_⟩:=j k c;rw[g] at c d e|-;exact T.wy a a c d e;rintro x y k (hx|rfl) (hy|rfl) hne e c;exact(T.GA hx hy hne e c).imp (up _ _) (up _ _);grind[Up];grind[Up];grind;rintro x (hx|rfl) c;obtain⟨p,a,h⟩:=T.pr hx c;grind;rcases h with⟨h,_⟩|⟨p,a,d,g,m⟩;omega;refine⟨p,.inl a,g,d,?_⟩;have:=T.st a d;grind[CX];rintro x p k (hx|rfl) (a|rfl) e c d;exact T.iW hx a e c d;grind;obtain⟨u,i,_,g,m,_⟩:=j k c;rw[T.id a i (e.trans g.symm),m];rfl;rintro x p q (hx|rfl) (a|rfl) e;exact T.df hx a e;grind;rw[o];rcases h with⟨h,_⟩|⟨u,i,d,g,m⟩;exact absurd (e.trans h) (T.pos a);obtain rfl:=T.id a i (e.trans g.symm);rw[m];simp;grind;rintro x (hx|rfl) c;exact T.z7 hx c;exact o
def AsP(g:du->Nat)(M:du->Prop):du->Prop:=λt=>∃s,M s/\t= {s with cZ:=g s}
def TI.aiX(T:TI f top M)(g:du->Nat):TI f top (AsP g M):=by have up:∀s b,Up M s b->Up (AsP g M) {s with cZ:=g s} b:=λs b ⟨p,j,h⟩=>⟨_,⟨p,j,ae⟩,h⟩;refine⟨?_,?_,?_,?_,?_,?_,?_,?_,?_,?_⟩;rintro _ _ ⟨x,a,rfl⟩ ⟨y,c,rfl⟩ e;rw[T.id a c e];rintro _ ⟨x,a,rfl⟩;exact(T.pos a:);rintro _ ⟨x,a,rfl⟩;exact(T.st a:);rintro _ k ⟨x,a,rfl⟩;exact(T.bt a:);rintro _ _ k l ⟨x,a,rfl⟩ ⟨y,c,rfl⟩;exact(T.wy a c:);rintro _ _ k ⟨x,a,rfl⟩ ⟨y,c,rfl⟩ i e d;exact(T.GA a c (λe=>i (by rw[e])) e d).imp (up _ _) (up _ _);rintro _ ⟨x,a,rfl⟩ d;obtain⟨p,j,h⟩:=T.pr a d;exact⟨_,⟨p,j,ae⟩,h⟩;rintro _ _ k ⟨x,a,rfl⟩ ⟨y,c,rfl⟩;exact(T.iW a c:);rintro _ _ k ⟨x,a,rfl⟩ ⟨y,c,rfl⟩;exact(T.df a c:);rintro _ ⟨x,a,rfl⟩;exact(T.z7 a:)
def pd(s:du)(M:du->Prop):du->Prop:=λt=>M t/\t≠s
theorem TI.jS(T:TI f top M){s:du}(k:M s)(hc:∀t,M t->t.dB≠s.id):TI f top (pd s M):=by have up:∀t b,M t->Up M t b->Up (pd s M) t b:=λt b ht ⟨p,i,e,h⟩=>⟨p,⟨i,λj=>hc t ht (by rw[<-e,j])⟩,e,h⟩;refine⟨λa c=>T.id a.1 c.1,λa=>T.pos a.1,λa=>T.st a.1,λa=>T.bt a.1,λa c=>T.wy a.1 c.1,λa c g e d=>(T.GA a.1 c.1 g e d).imp (up _ _ a.1) (up _ _ c.1),?_,λa c=>T.iW a.1 c.1,λa c=>T.df a.1 c.1,λa=>T.z7 a.1⟩;intro x a d;obtain⟨p,i,e,h⟩:=T.pr a.1 d;grind[pd]
end
section
def qm(v v':du)(M:du->Prop):du->Prop:=λt=>pd v M t∨t=v'
structure ae2(f g:cQ->Nat->cQ)(top:Nat)(M:du->Prop)(v v':du):Prop where
 iK:v.dz=cy
 eq:v'.id=v.id/\v'.dB=v.dB/\v'.dz=v.dz
 same:∀t,M t->t≠v->∀k,g t.cO k=f t.cO k
 new:∀k,g v'.cO k=cY∨g v'.cO k=f v.cO k∨(∃p,M p/\p.id=v.dB/\g v'.cO k=f p.cO k)∨((g v'.cO k).2.1=top/\¬Re f M (g v'.cO k).1/\∀l,g v'.cO l≠cY->(g v'.cO k).1=(g v'.cO l).1->k=l)
 df:∀p q,M p->p.id=v.dB->(q∈v'.df↔q≠cY/\∃k,f p.cO k=q/\g v'.cO k≠q)
 z7:v.dB=0->v'.df=[]
theorem TI.pJ(T:TI f top M){p:du}(h:M v)(b:M p)(e:p.id=v.dB):p.dz=cx/\p.cR<CX top v/\p≠v:=by obtain⟨j,a,c,d,g⟩:=T.pr h (by rw[<-e];exact T.pos b);obtain rfl:=T.id b a (e.trans c.symm);refine⟨d,g,λi=>?_⟩;simp_all[CX]
theorem TI.Yt(T:TI f top M)(u:1<=top)(j:M v)(C:ae2 f g top M v v'):TI g top (qm v v' M):=by
 have s:CX top v'=top:=by unfold CX;rw[C.eq.2.2,C.iK];rfl
 have up:∀t b,M t->Up M t b->Up (qm v v' M) t b:=λt b h ⟨p,a,e,m⟩=>by by_cases n:p=v;have:=(T.pJ h a e).1;rw[n,C.iK] at this;cases this;exact⟨p,.inl ⟨a,n⟩,e,m⟩
 have r:∀b,Up M v b->Up (qm v v' M) v' b:=λb h=>by obtain⟨p,a,e,m⟩:=up v b j h;exact⟨p,a,by rw[C.eq.2.1];exact e,m⟩
 have w:∀p k,M p->p.id=v.dB->f p.cO k≠cY->(f p.cO k).2.1<=p.cR/\p.cR<top:=λp k a e h=>by have c:=(T.pJ j a e).1;have:=T.bt a h;unfold CX at this;rw[c8 c] at this;exact⟨this.2,T.st a c⟩
 have ne:∀t,M t->t.id=v.id->t=v:=λt h e=>T.id h j e;refine⟨?_,?_,?_,?_,?_,?_,?_,?_,?_,?_⟩;rintro x y (hx|rfl) (d|rfl) e;exact T.id hx.1 d.1 e;exact absurd (ne x hx.1 (e.trans C.eq.1)) hx.2;exact absurd (ne y d.1 (e.symm.trans C.eq.1)) d.2;rfl;rintro x (hx|rfl);exact T.pos hx.1;rw[C.eq.1];exact T.pos j;rintro x (hx|rfl) hs;exact T.st hx.1 hs;rw[C.eq.2.2,C.iK] at hs;cases hs;rintro x k (hx|rfl) hk;rw[C.same x hx.1 hx.2] at hk|-;exact T.bt hx.1 hk;rw[s];rcases C.new k with h|h|⟨p,a,e,h⟩|h;grind;rw[h] at hk|-;have:=T.bt j hk;unfold CX at this;rw[C.iK] at this;exact this;rw[h] at hk|-;have:=T.bt a hk;grind;omega;(have o:∀y k l,pd v M y->g v'.cO k≠cY->g y.cO l≠cY->(g v'.cO k).1=(g y.cO l).1->k=l/\g v'.cO k=g y.cO l:=by intro y k l d c i e;rw[C.same y d.1 d.2] at i e|-;rcases C.new k with h|h|⟨p,a,_,h⟩|h;grind;rw[h] at c e|-;exact T.wy j d.1 c i e;rw[h] at c e|-;exact T.wy a d.1 c i e;exact absurd ⟨y,l,d.1,i,e.symm⟩ h.2.1);rintro x y k l (hx|rfl) (d|rfl) c i e;rw[C.same x hx.1 hx.2] at c e|-;rw[C.same y d.1 d.2] at i e|-;exact T.wy hx.1 d.1 c i e;grind;grind;rcases C.new k with h|h|⟨p,a,_,h⟩|h;grind;rcases C.new l with m|m|⟨p',hp',_,m⟩|m;grind;rw[h] at c e|-;rw[m] at i e|-;exact T.wy j j c i e;rw[h] at c e|-;rw[m] at i e|-;exact T.wy j hp' c i e;grind;rcases C.new l with m|m|⟨p',hp',_,m⟩|m;grind;rw[h] at c e|-;rw[m] at i e|-;exact T.wy a j c i e;rw[h] at c e|-;rw[m] at i e|-;exact T.wy a hp' c i e;grind;grind;(have o:∀y k,pd v M y->g v'.cO k=g y.cO k->g v'.cO k≠cY->Up (qm v v' M) v' (g v'.cO k).2.1∨Up (qm v v' M) y (g v'.cO k).2.1:=by intro y k d e c;rw[C.same y d.1 d.2] at e;rcases C.new k with h|h|⟨p,a,n,h⟩|h;grind;rw[h] at e c|-;exact(T.GA j d.1 (pU d.2) e c).imp (r _) (up _ _ d.1);grind[Up];exact absurd ⟨y,k,d.1,by grind,by rw[<-e]⟩ h.2.1);rintro x y k (hx|rfl) (d|rfl) hne e c;rw[C.same x hx.1 hx.2] at c e|-;rw[C.same y d.1 d.2] at e;exact(T.GA hx.1 d.1 hne e c).imp (up _ _ hx.1) (up _ _ d.1);grind;grind;grind;rintro x (hx|rfl) c;obtain⟨p,a,e,h⟩:=T.pr hx.1 c;exact⟨p,.inl ⟨a,λn=>by rw[n,C.iK] at h;cases h.1⟩,e,h⟩;rw[C.eq.2.1] at c|-;obtain⟨p,a,e,h⟩:=T.pr j c;exact⟨p,.inl ⟨a,λn=>by rw[n,C.iK] at h;cases h.1⟩,e,h.1,by rw[s];exact T.st a h.1⟩;rintro x p k (hx|rfl) (a|rfl) e c i;rw[C.same x hx.1 hx.2] at c i|-;rw[C.same p a.1 a.2];exact T.iW hx.1 a.1 e c i;have:=(T.pJ hx.1 j (by rw[<-C.eq.1];exact e)).1;rw[C.iK] at this;cases this;rw[C.eq.2.1] at e;rw[C.same p a.1 a.2];rcases C.new k with h|h|⟨p',hp',n,h⟩|h;grind;rw[h] at c i|-;exact T.iW j a.1 e c i;rw[h,T.id a.1 hp' (e.trans n.symm)];have:=T.pJ j a.1 e;have:=T.st a.1 this.1;omega;rfl;rintro x p q (hx|rfl) (a|rfl) e;rw[T.df hx.1 a.1 e];simp only[C.same x hx.1 hx.2,C.same p a.1 a.2];have:=(T.pJ hx.1 j (by rw[<-C.eq.1];exact e)).1;rw[C.iK] at this;cases this;rw[C.eq.2.1] at e;rw[C.df p q a.1 e];simp only[C.same p a.1 a.2];rw[C.eq.2.1,C.eq.1] at e;exact absurd ae (T.pJ j j e).2.2;rintro x (hx|rfl) c;exact T.z7 hx.1 c;exact C.z7 (by rw[<-C.eq.2.1];exact c)
def ahj(f g:cQ->Nat->cQ)(M:du->Prop)(v:du)(r:cQ)(q:cQ):Prop:=q≠cY/\∃k,f v.cO k=q/\g r k≠q/\¬Up M v q.2.1
def TI.Qx(T:TI f top M)(c:M v)(C:ae2 f g top M v v')(h:ahj f g M v v'.cO q):¬Re g (qm v v' M) q.1:=by obtain⟨d,k,rfl,m,j⟩:=h;rintro⟨t,l,i|rfl,a,b⟩;rw[C.same t i.1 i.2] at a b;exact i.2 (T.alone c C.iK d j i.1 a b);rcases C.new l with h|h|⟨p,hp,e,h⟩|h;exact a h;rw[h] at a b;obtain⟨rfl,_⟩:=T.wy c c a d b;exact m h;rw[h] at a b;exact(T.pJ c hp e).2.2 (T.alone c C.iK d j hp a b);exact h.2.1 ⟨v,k,c,d,b.symm⟩
theorem TI.Qy(T:TI f top M)(s:M v)(C:ae2 f g top M v v')(h:Re f M a)(o:∀q,ahj f g M v v'.cO q->q.1≠a):Re g (qm v v' M) a:=by obtain⟨t,k,c,d,rfl⟩:=h;have i:∀t,M t->t≠v->f t.cO k≠cY->Re g (qm v v' M) (f t.cO k).1:=λt c b d=>⟨t,k,.inl ⟨c,b⟩,by rw[C.same t c b];exact d,by rw[C.same t c b]⟩;by_cases e:t=v;subst e;by_cases j:g v'.cO k=f t.cO k;exact⟨v',k,.inr ae,by grind,by rw[j]⟩;by_cases l:Up M t (f t.cO k).2.1;obtain⟨p,r,e,m,_,n⟩:=T.up c d l;rw[<-n];exact i p r (λe=>by rw[e,C.iK] at m;cases m) jH;exact absurd ae (o _ ⟨d,k,ae,j,l⟩);grind
end
section
theorem aiY{s:du}(h:s.dz=cx->s.cR<top):CX top s<=CX (top+1) s:=by grind[CX]
theorem TI.later(T:TI f top M):TI f (top+1) M:=
 ⟨T.id,T.pos,λh e=>lt_succ_of_lt (T.st h e),λh e=>⟨(T.bt h e).1,ik (T.bt h e).2 (aiY (T.st h))⟩,T.wy,T.GA,
  λh e=>by obtain⟨p,a,b,c,d⟩:=T.pr h e;grind[CX],T.iW,T.df,T.z7⟩
theorem TI.dz(T:TI f top M)(L:1<=top)(a:M v)(iK:v.dz=cy)(F:sn.id≠0)(j:∀t,M t->t.id≠sn.id/\t.dB≠sn.id)(e:sn.dz=cx/\sn.cR=top/\sn.dB=v.dB/\sn.cO=v.cO/\sn.df=v.df)(D:v'.id=v.id/\v'.dz=cy/\v'.dB=sn.id/\v'.cO=v.cO/\v'.df=[]):
 TI f (top+1) (λt=>qm v v' M t∨t=sn):=by
 obtain⟨B,H,s,m,A⟩:=e;obtain⟨n,I,u,w,C⟩:=D;have r:=T.later;have J:∀k,f v.cO k≠cY->(f v.cO k).2.1<=top:=λk h=>by have:=(T.bt a h).2;grind[CX]
 have up:∀t b,M t->Up M t b->∃p,pd v M p/\p.id=t.dB/\b<=p.cR:=λt b h ⟨p,g,e,E⟩=>by by_cases K:p=v;have:=(T.pJ h g e).1;grind;grind[pd]
 have i:∀t b,M t->Up M t b->Up (λt=>qm v v' M t∨t=sn) t b:=λt b h E=>by grind[Up,qm]
 have G:∀k,f v.cO k≠cY->Up (λt=>qm v v' M t∨t=sn) v' (f v.cO k).2.1:=λk h=>⟨sn,.inr ae,u.symm,by grind⟩;have o:∀b,Up M v b->Up (λt=>qm v v' M t∨t=sn) sn b:=λb h=>by grind[Up]
 have z:∀t,M t->t.dB≠v.id:=λt h e=>by have:=(T.pJ h a e.symm).1;grind
 refine⟨?_,?_,?_,?_,?_,?_,?_,?_,?_,?_⟩;rintro x y ((hx|rfl)|rfl) ((hy|rfl)|rfl) e;exact T.id hx.1 hy.1 e;exact absurd (T.id hx.1 a (e.trans n)) hx.2;exact absurd e (j x hx.1).1;exact absurd (T.id hy.1 a (e.symm.trans n)) hy.2;rfl;grind;exact absurd e.symm (j y hy.1).1;grind;rfl;rintro x ((hx|rfl)|rfl);exact T.pos hx.1;rw[n];exact T.pos a;exact F;rintro x ((hx|rfl)|rfl) h;exact r.st hx.1 h;grind;omega;rintro x k ((hx|rfl)|rfl) h;exact r.bt hx.1 h;rw[w] at h|-;have:=r.bt a h;grind[CX];rw[m] at h|-;refine⟨(T.bt a h).1,?_⟩;simp_all[CX];rintro x y k l ((hx|rfl)|rfl) ((hy|rfl)|rfl)<;>(try simp only[m,w])<;>first|exact T.wy hx.1 hy.1|exact T.wy hx.1 a|exact T.wy a hy.1|exact T.wy a a
 (rintro x y k ((hx|rfl)|rfl) ((hy|rfl)|rfl) hne e h<;>try simp only[m,w] at e h|-);exact(T.GA hx.1 hy.1 hne e h).imp (i _ _ hx.1) (i _ _ hy.1);grind;exact(T.GA hx.1 a hx.2 e h).imp (i _ _ hx.1) (o _);grind;grind;grind;exact(T.GA a hy.1 (pU hy.2) e h).imp (o _) (i _ _ hy.1);grind;grind;rintro x ((hx|rfl)|rfl) h;obtain⟨p,g,c,d⟩:=r.pr hx.1 h;exact⟨p,.inl (.inl ⟨g,λe=>z x hx.1 (by rw[<-c,e])⟩),c,d⟩;exact⟨sn,.inr ae,u.symm,B,by simp_all[CX]⟩;rw[s] at h;obtain⟨p,g,c,d,d2⟩:=T.pr a h;refine⟨p,.inl (.inl ⟨g,λe=>z v a (by rw[<-c,e])⟩),c.trans s.symm,d,?_⟩;simp_all[CX];(rintro x p k ((hx|rfl)|rfl) ((g|rfl)|rfl) e h h2<;>try simp only[s,m,n,u,w] at e h h2|-);exact T.iW hx.1 g.1 e h h2;exact absurd e.symm (z x hx.1);exact absurd e.symm (j x hx.1).2;exact absurd e (j p g.1).1;exact T.iW a g.1 e h h2;(rintro x p q ((hx|rfl)|rfl) ((g|rfl)|rfl) e<;>try simp only[s,n,u] at e|-);exact T.df hx.1 g.1 e;exact absurd e.symm (z x hx.1);exact absurd e.symm (j x hx.1).2;exact absurd e (j p g.1).1;grind;grind;rw[A,m];exact T.df a g.1 e;grind;grind;rintro x ((hx|rfl)|rfl) h;exact T.z7 hx.1 h;rw[C];rw[A];exact T.z7 a cN
theorem ahk(g:M v)(e:sn.cO=v.cO)(d:v'.cO=v.cO)(a:Nat):Re f (λt=>qm v v' M t∨t=sn) a↔Re f M a:=by constructor;rintro⟨t,k,(b|rfl)|rfl,h⟩;exact⟨t,k,b.1,h⟩;grind[Re];grind[Re];rintro⟨t,k,b,h⟩;by_cases c:t=v;subst c;exact⟨sn,k,.inr ae,by grind⟩;exact⟨t,k,.inl (.inl ⟨b,c⟩),h⟩
theorem TI.cut(T:TI f top M){s:du}(m:M s)(B:s.dz=cx)(g:M j)(o:j.dB=s.id)(hc:∀t,M t->t.dB=s.id->t=j)(e:j'.id=j.id/\j'.dz=j.dz/\j'.cR=j.cR/\j'.dB=s.dB/\j'.cO=j.cO)(K:∀q,q∈j'.df↔(q∈j.df/\Up M s q.2.1)∨q∈s.df):
 TI f top (qm j j' (pd s M)):=by
 obtain⟨D,Q,J,E,A⟩:=e;have Z:=T.pJ g m o.symm;have L:CX top j'=CX top j:=by grind[CX]
 have N:∀p,M p->p≠s->∃w,qm j j' (pd s M) w/\w.id=p.id/\w.dz=p.dz/\w.cR=p.cR/\w.cO=p.cO:=λp a h=>by by_cases F:p=j;subst F;exact⟨j',.inr ae,D,Q,J,A⟩;exact⟨p,.inl ⟨⟨a,h⟩,F⟩,ae,ae,ae,ae⟩
 have up:∀t b,M t->t≠j->Up M t b->Up (qm j j' (pd s M)) t b:=λt b h hne ⟨p,a,e,h'⟩=>by obtain⟨w,u,c,_,d,_⟩:=N p a λF=>hne (hc t h (by rw[<-e,F]));grind[Up]
 have I:∀b,Up M s b->Up (qm j j' (pd s M)) j' b:=λb ⟨p,a,e,h'⟩=>by grind[Up]
 have O:∀p k,M p->p.id=s.dB->f p.cO k≠cY->(f p.cO k).2.1<=p.cR/\p.cR<s.cR:=λp k a e h=>by have n:=T.pJ m a e;have:=T.bt a h;simp_all[CX]
 refine⟨?_,?_,?_,?_,?_,?_,?_,?_,?_,?_⟩;rintro x y (hx|rfl) (i|rfl) e;exact T.id hx.1.1 i.1.1 e;exact absurd (T.id hx.1.1 g (e.trans D)) hx.2;exact absurd (T.id i.1.1 g (e.symm.trans D)) i.2;rfl;rintro x (hx|rfl);exact T.pos hx.1.1;rw[D];exact T.pos g;rintro x (hx|rfl) h;exact T.st hx.1.1 h;rw[J];exact T.st g jH;rintro x k (hx|rfl) h;exact T.bt hx.1.1 h;rw[A] at h|-;rw[L];exact T.bt g h;rintro x y k l (hx|rfl) (i|rfl)<;>(try simp only[A])<;>first|exact T.wy hx.1.1 i.1.1|exact T.wy hx.1.1 g|exact T.wy g i.1.1|exact T.wy g g
 (have v:∀y k,pd j (pd s M) y->f j.cO k=f y.cO k->f j.cO k≠cY->Up (qm j j' (pd s M)) j' (f j.cO k).2.1∨Up (qm j j' (pd s M)) y (f j.cO k).2.1:=by intro y k i e h;rcases T.GA g i.1.1 (pU i.2) e h with n|n;(have G:f s.cO k=f j.cO k:=by obtain⟨p,a,c,_,_,d⟩:=T.up g h n;rw[<-d,T.id a m (c.trans o)]);rw[<-G] at e h|-;exact(T.GA m i.1.1 (pU i.1.2) e h).imp (I _) (up _ _ i.1.1 i.2);grind[pd]);rintro x y k (hx|rfl) (i|rfl) hne e h;exact(T.GA hx.1.1 i.1.1 hne e h).imp (up _ _ hx.1.1 hx.2) (up _ _ i.1.1 i.2);grind;grind;grind;rintro x (hx|rfl) h;obtain⟨p,a,c,d,d2⟩:=T.pr hx.1.1 h;grind[qm,pd];rw[E] at h|-;obtain⟨p,a,c,d,d2⟩:=T.pr m h;obtain⟨w,u,R,U,V,_⟩:=N p a (T.pJ m a c).2.2;refine⟨w,u,R.trans c,U.trans d,?_⟩;rw[V,L];unfold CX at d2 Z;rw[c8 B] at d2;grind[CX];(have v:∀p k,M p->p.id=s.dB->f j.cO k≠cY->(f j.cO k).2.1<=p.cR->f p.cO k=f j.cO k:=by intro p k a e h z;have C:=T.pJ m a e;unfold CX at C;rw[c8 B] at C;have G:=T.iW g m o.symm h cN;rw[<-G] at h z|-;exact T.iW m a e h z);rintro x p k (hx|rfl) (a|rfl) e h z;exact T.iW hx.1.1 a.1.1 e h z;rw[A];exact T.iW hx.1.1 g cN h cN;rw[E] at e;rw[A] at h z|-;exact v p k a.1.1 e h z;rfl;(have v:∀p,M p->p.id=s.dB->∀q,q∈j'.df↔q≠cY/\∃k,f p.cO k=q/\f j.cO k≠q:=by intro p a e q;rw[K,T.df g m o.symm,T.df m a e];have C:=T.pJ m a e;unfold CX at C;rw[c8 B] at C;constructor;rintro(⟨⟨r,k,rfl,n⟩,z⟩|⟨r,k,rfl,n⟩);obtain⟨w,u,X,_,_,d⟩:=T.up m r z;obtain rfl:=T.id a u (e.trans X.symm);grind;refine⟨r,k,ae,λH=>n ?_⟩;have:=O p k a e r;rw[<-H] at r this|-;exact T.iW g m o.symm r cN;rintro⟨r,k,rfl,n⟩;by_cases H:f s.cO k=f p.cO k;exact .inl ⟨⟨r,k,H,n⟩,p,a,e,(O p k a e r).1⟩;grind);rintro x p q (hx|rfl) (a|rfl) e;exact T.df hx.1.1 a.1.1 e;rw[A];exact T.df hx.1.1 g cN;rw[E] at e;rw[A];exact v p a.1.1 e q;grind;rintro x (hx|rfl) h;exact T.z7 hx.1.1 h;apply List.eq_nil_iff_forall_not_mem.2;intro q Y;rw[E] at h;rcases(K q).1 Y with⟨_,n⟩|n;exact T.akh h _ n;rw[T.z7 m h] at n;cases n
theorem TI.ae3(T:TI f top M){s:du}(i:M s)(v:M j)(g:j.dB=s.id)(hc:∀t,M t->t.dB=s.id->t=j)(e:j'.cO=j.cO)(w:q∈j.df)(x:¬Up M s q.2.1):¬Re f (qm j j' (pd s M)) q.1:=by
 obtain⟨n,k,rfl,y⟩:=(T.df v i g.symm).1 w;have m:∀t l,M t->t≠s->f t.cO l≠cY->(f t.cO l).1=(f s.cO k).1->False:=by intro t l a h b d;obtain⟨rfl,o⟩:=T.wy a i b n d;obtain⟨c,p,r,u⟩:=T.child i n x _ t (eN _) a o h;grind
 rintro⟨t,l,a|rfl,b,d⟩;exact m t l a.1.1 a.1.2 b d;grind
theorem TI.ae4(T:TI f top M){s:du}(w:M s)(v:M j)(i:j.dB=s.id)(e:j'.cO=j.cO)(h:Re f M a)(y:∀q,q∈j.df->¬Up M s q.2.1->q.1≠a):Re f (qm j j' (pd s M)) a:=by
 obtain⟨t,k,g,c,rfl⟩:=h;have m:∀t,M t->t≠s->f t.cO k≠cY->Re f (qm j j' (pd s M)) (f t.cO k).1:=λt g l c=>by by_cases b:t=j;subst b;exact⟨j',k,.inr ae,by grind,by rw[e]⟩;exact⟨t,k,.inl ⟨⟨g,l⟩,b⟩,c,ae⟩
 by_cases b:t=s;subst b;by_cases r:f j.cO k=f t.cO k;grind[Re,qm];have x:=(T.df v w i.symm).2 ⟨c,k,ae,r⟩;by_cases u:Up M t (f t.cO k).2.1;obtain⟨p,n,o,_,_,d⟩:=T.up g c u;rw[<-d];exact m p n (T.pJ g n o).2.2 jH;grind;grind
end
def CY(l:List du):Prop:=l.Pairwise λa b=>a.id<b.id
theorem kr{l:List du}{k:Nat}(h:k<l.n):dH l k∈l/\l[k]?=cu (dH l k):=by grind[dH]
theorem kR{l:List du}{id k:Nat}(h:fp l id=cu k):k<l.n/\dH l k∈l/\(dH l k).id=id:=by grind[fp,findIdx?_eq_some_iff_getElem,kr]
theorem NM{id:Nat}(h:fp l id=cw){s:du}(a:s∈l):s.id≠id:=by grind[fp]
theorem CY.inj(h:CY l){s:du}(a:s∈l)(b:t∈l)(e:s.id=t.id):s=t:=by obtain⟨i,c,rfl⟩:=yk a;obtain⟨j,d,rfl⟩:=yk b;have h:=I6.1 h;grind
theorem CY.at(h:CY l){j:Nat}(c:i<l.n)(d:j<l.n)(e:dH l i=dH l j):i=j:=by
 have a:dH l i=l[i]:=by grind[dH]
 have b:dH l j=l[j]:=by grind[dH]
 rw[a,b] at e;have h:=I6.1 h;grind
def CY.CM(h:CY l){s:du}(a:s∈l):∃k,fp l s.id=cu k/\dH l k=s:=by cases e:fp l s.id with|none=>exact absurd ae (NM e a)|some k=>have:=kR e;exact⟨k,ae,h.inj this.2.1 a this.2.2⟩
theorem CY.set(h:CY l)(c:k<l.n)(s:du):s∈l.set k y↔qm (dH l k) y (·∈l) s:=by
 unfold qm pd;constructor;intro b;obtain⟨i,a,rfl⟩:=yk b;rw[getElem_set];split;grind;next hne=>(have a:i<l.n:=by grind);refine .inl ⟨mP _,λe=>hne ?_⟩;refine(h.at a c ?_).symm;grind[dH]
 rintro(⟨b,hne⟩|rfl);obtain⟨i,a,rfl⟩:=yk b;have:i≠k:=λe=>hne (by grind[dH]);exact xz.2 ⟨i,by grind,by grind⟩;grind[mem_iff_getElem]
theorem CY.erase(h:CY l)(c:k<l.n)(s:du):s∈l.eraseIdx k↔pd (dH l k) (·∈l) s:=by unfold pd;rw[mem_eraseIdx_iff_getElem];constructor;rintro⟨i,b,a,rfl⟩;refine⟨mP _,λe=>a ?_⟩;refine h.at b c ?_;grind[dH];rintro⟨d,a⟩;obtain⟨i,b,rfl⟩:=yk d;exact⟨i,b,λe=>a (by grind[dH]),ae⟩
theorem CY.EO(h:CY l)(e:y.id=(dH l k).id):CY (l.set k y):=by by_cases f:k<l.n;(have a:dH l k=l[k]:=by grind[dH]);have h:=I6.1 h;refine I6.2 λi j c d b=>?_;grind;grind[set_eq_of_length_le]
def CY.Qz(h:CY l)(k:Nat):CY (l.eraseIdx k):=Pairwise.sublist (eraseIdx_sublist l k) h
theorem CY.snoc(h:CY l){s:du}(a:∀t∈l,t.id<s.id):CY (l++[s]):=by grind[CY]
theorem CY.map(h:CY l){g:du->du}(a:∀s,(g s).id=s.id):CY (l.map g):=by grind[CY]
theorem ae5(h:CY l)(r:∀s∈l,s.id≠0){s:du}(q:s∈l){b:Nat}(t:1<=b)(a:s.dB≠0->∃p∈l,p.id=s.dB):b<=gr l s.id↔Up (·∈l) s b:=by obtain⟨k,d,f⟩:=h.CM q;unfold gr Up;rw[d];simp only[f];split;grind;next e=>obtain⟨p,a,g⟩:=a e;obtain⟨j,i,m⟩:=h.CM a;rw[<-g,i];simp only[m];constructor;grind;rintro⟨u,c,n,o⟩;rwa [h.inj c a n] at o
structure CZ(next:Nat)(M:du->Prop):Prop where
 id:∀{s t},M s->M t->s.id=t.id->s=t
 lt:∀{s},M s->1<=s.id/\s.id<next
 own:∀{s},M s->s.dz=cx->∃v,M v/\v.dz=cy/\v.id=s.cZ
 nxt:∀{s},M s->s.dz=cx->∃c,M c/\c.dB=s.id/\c.cZ=s.cZ
 one:∀{s c d},M s->s.dz=cx->M c->M d->c.dB=s.id->d.dB=s.id->c.cZ=s.cZ->d.cZ=s.cZ->c=d
 iK:∀{s},M s->s.dz=cy->s.cZ=s.id
 name:∀{s t},M s->M t->dK s=dK t->s=t
 pr:∀{s},M s->s.dB≠0->∃p,M p/\p.id=s.dB/\p.dz=cx/\(s.dz=cx->p.cR<s.cR)
def ab2(s t:du):Prop:=t.id=s.id/\t.dz=s.dz/\t.cZ=s.cZ/\t.dB=s.dB/\t.name=s.name/\t.cR=s.cR
theorem ab2.called{s:du}(h:ab2 s t):dK t=dK s:=by obtain⟨_,a,b,_,c,_⟩:=h;grind[dK]
section
variable {n:Nat}{N:du->Prop}
def CZ.alb(F:CZ n M)(h:∀t,N t->∃s,M s/\ab2 s t)(g:∀s,M s->∃t,N t/\ab2 s t)(x:∀s t,N s->N t->s.id=t.id->s=t):CZ n N:=by refine⟨fun {s t}=>x s t,?_,?_,?_,?_,?_,?_,?_⟩;intro t i;obtain⟨s,j,e⟩:=h t i;rw[e.1];exact F.lt j;intro t i f;obtain⟨s,j,e⟩:=h t i;obtain⟨v,A,a,b⟩:=F.own j amr;obtain⟨v',l,k⟩:=g v A;exact⟨v',l,k.2.1.trans a,k.1.trans (b.trans e.2.2.1.symm)⟩;intro t i f;obtain⟨s,j,e⟩:=h t i;obtain⟨v,A,a,b⟩:=F.nxt j amr;obtain⟨v',l,k⟩:=g v A;exact⟨v',l,k.2.2.2.1.trans (a.trans e.1.symm),k.2.2.1.trans (b.trans e.2.2.1.symm)⟩;intro t c d i f hc B m D E G;obtain⟨s,j,e⟩:=h t i;obtain⟨K,r,o⟩:=h c hc;obtain⟨d',w,q⟩:=h d B;have:=F.one j amr r w (o.2.2.2.1.symm.trans (m.trans e.1)) (q.2.2.2.1.symm.trans (D.trans e.1)) (o.2.2.1.symm.trans (E.trans e.2.2.1)) (q.2.2.1.symm.trans (G.trans e.2.2.1));exact x c d hc B (o.1.trans (this▸q.1.symm));intro t i f;obtain⟨s,j,e⟩:=h t i;rw[e.2.2.1,e.1];exact F.iK j amr;intro t u i C m;obtain⟨s,j,e⟩:=h t i;obtain⟨s',z,k⟩:=h u C;rw[e.called,k.called] at m;exact x t u i C (e.1.trans (F.name j z m▸k.1.symm));intro t i H;obtain⟨s,j,e⟩:=h t i;obtain⟨p,I,a,b,c⟩:=F.pr j (by rw[<-e.2.2.2.1];exact H);obtain⟨J,y,k⟩:=g p I;exact⟨J,y,k.1.trans (a.trans e.2.2.2.1.symm),k.2.1.trans b,λh=>by rw[k.2.2.2.2.2,e.2.2.2.2.2];exact c (by rw[<-e.2.1];exact h)⟩
theorem CZ.sub(F:CZ n M)(b:M v)(e:ab2 v v'):CZ n (qm v v' M):=by refine F.alb ?_ ?_ ?_;rintro t (ht|rfl);exact⟨t,ht.1,ae,ae,ae,ae,ae,ae⟩;grind;intro s a;by_cases h:s=v;subst h;exact⟨v',.inr ae,e⟩;exact⟨s,.inl ⟨a,h⟩,ae,ae,ae,ae,ae,ae⟩;rintro s t (a|rfl) (ht|rfl) e1;exact F.id a.1 ht.1 e1;exact absurd (F.id a.1 b (e1.trans e.1)) a.2;exact absurd (F.id ht.1 b (e1.symm.trans e.1)) ht.2;rfl
theorem CZ.add(F:CZ n M){s:du}(f:s.dz=cy)(j:s.id=n)(i:1<=n)(ho:s.cZ=n)(k:∀t,M t->dK t≠dK s)(g:s.dB≠0->∃p,M p/\p.id=s.dB/\p.dz=cx):CZ (n+1) (λt=>M t∨t=s):=by
 have m:∀{t},M t->t.dB≠n:=fun {t} ht e=>by obtain⟨p,g,a,_⟩:=F.pr ht cN;have:=(F.lt g).2;omega
 have l:∀{t},M t->t.dz=cx->t.cZ≠n:=fun {t} ht hs e=>by obtain⟨v,f,_,b⟩:=F.own ht hs;have:=(F.lt f).2;omega
 refine⟨?_,?_,?_,?_,?_,?_,?_,?_⟩;rintro x y (hx|rfl) (hy|rfl) e;exact F.id hx hy e;have:=(F.lt hx).2;omega;have:=(F.lt hy).2;omega;rfl;rintro x (hx|rfl);have:=F.lt hx;omega;omega;rintro x (hx|rfl) h;obtain⟨v,f,h⟩:=F.own hx h;grind;grind;rintro x (hx|rfl) h;obtain⟨v,f,h⟩:=F.nxt hx h;grind;grind
 . rintro x c d (hx|rfl) h (hc|rfl) (hd|rfl) e1 e2 e3 e4;exact F.one hx h hc hd e1 e2 e3 e4;grind;grind;rfl;all_goals grind
 rintro x (hx|rfl) h;exact F.iK hx h;omega;rintro x y (hx|rfl) (hy|rfl) e;exact F.name hx hy e;grind;grind;rfl;rintro x (hx|rfl) h;obtain⟨p,g,h⟩:=F.pr hx h;grind;grind
theorem CZ.dz(F:CZ n M)(f:M v)(iK:v.dz=cy)(B:∀p,M p->p.id=v.dB->p.cR<sn.cR)(G:1<=n)(e:sn.dz=cx/\sn.dB=v.dB/\sn.id=n/\sn.cZ=v.id)(A:v'.id=v.id/\v'.dz=cy/\v'.dB=n/\v'.cZ=v.cZ/\v'.name=v.name)(q:∀t,M t->dK t≠dK sn):
 CZ (n+1) (λt=>qm v v' M t∨t=sn):=by
 obtain⟨C,j,k,w⟩:=e;obtain⟨i,l,z,D,E⟩:=A;have r:∀{t},M t->t.dB≠n:=fun {t} ht e=>by obtain⟨p,g,a,_⟩:=F.pr ht cN;have:=(F.lt g).2;omega
 have H:v.cZ=v.id:=F.iK f iK;have o:dK v'=dK v:=by grind[dK]
 have s:∀{t},M t->t.dB≠v.id:=fun {t} ht e=>by obtain⟨p,g,a,b,_⟩:=F.pr ht (by have:=F.lt f;omega);rw[F.id g f (a.trans e),iK] at b;cases b
 refine⟨?_,?_,?_,?_,?_,?_,?_,?_⟩;rintro x y ((hx|rfl)|rfl) ((hy|rfl)|rfl) e;exact F.id hx.1 hy.1 e;exact absurd (F.id hx.1 f (e.trans i)) hx.2;have:=(F.lt hx.1).2;omega;exact absurd (F.id hy.1 f (e.symm.trans i)) hy.2;rfl;have:=(F.lt f).2;omega;have:=(F.lt hy.1).2;omega;have:=(F.lt f).2;omega;rfl;rintro x ((hx|rfl)|rfl);have:=F.lt hx.1;omega;have:=F.lt f;omega;omega;rintro x ((hx|rfl)|rfl) h;obtain⟨u,m,c,d⟩:=F.own hx.1 h;by_cases e:u=v;subst e;exact⟨v',.inl ax,l,i.trans d⟩;exact⟨u,.inl (.inl ⟨m,e⟩),c,d⟩;grind;exact⟨v',.inl ax,l,i.trans w.symm⟩;rintro x ((hx|rfl)|rfl) h;obtain⟨u,m,c,d⟩:=F.nxt hx.1 h;by_cases e:u=v;grind;exact⟨u,.inl (.inl ⟨m,e⟩),c,d⟩;grind;exact⟨v',.inl ax,z.trans k.symm,cN⟩;rintro x c d ((hx|rfl)|rfl) h ((hc|rfl)|rfl) ((hd|rfl)|rfl) e1 e2 e3 e4<;>first|rfl|exact F.one hx.1 h hc.1 hd.1 e1 e2 e3 e4|(rw[l] at h;cases h)|exact absurd (e2.trans k) (r hd.1)|exact absurd (e1.trans k) (r hc.1)|(have:=(F.lt hx.1).2;omega)|exact absurd (F.one hx.1 h hc.1 f e1 (j.symm.trans e2) e3 cN) hc.2|exact absurd (F.one hx.1 h hd.1 f e2 (j.symm.trans e1) e4 cN) hd.2|grind
 rintro x ((hx|rfl)|rfl) h;exact F.iK hx.1 h;omega;grind;rintro x y ((hx|rfl)|rfl) ((hy|rfl)|rfl) e;exact F.name hx.1 hy.1 e;rw[o] at e;exact absurd (F.name hx.1 f e) hx.2;exact absurd e (q x hx.1);rw[o] at e;exact absurd (F.name f hy.1 e).symm hy.2;rfl;grind;exact absurd e.symm (q y hy.1);grind;rfl;rintro x ((hx|rfl)|rfl) h;obtain⟨p,g,c⟩:=F.pr hx.1 h;exact⟨p,.inl (.inl ⟨g,λe=>s hx.1 jH⟩),c⟩;grind;rw[j] at h|-;obtain⟨p,g,c,d,_⟩:=F.pr f h;exact⟨p,.inl (.inl ⟨g,λe=>s f (by rw[<-c,e])⟩),c,d,λ_=>B p g c⟩
end
section
variable {n:Nat}
def CZ.ne0(F:CZ n M){s:du}(h:M s):s.id≠0:=by have:=F.lt h;omega
theorem CZ.xQ(F:CZ n M){s p:du}(d:M s)(b:M p)(e:p.id=s.dB):p.dz=cx/\(s.dz=cx->p.cR<s.cR)/\p≠s:=by obtain⟨h,a,c,f,g⟩:=F.pr d (by rw[<-e];exact F.ne0 b);obtain rfl:=F.id b a (e.trans c.symm);grind
theorem CZ.last(F:CZ n M)(d:M v)(b:∀s,M s->s.dz=cx->s.cR<top):∀(k:Nat)(s:du),top-s.cR<=k->M s->s.dz=cx->s.cZ=v.id->∃p,M p/\p.dz=cx/\p.cZ=v.id/\p.id=v.dB
 |0,s,hk,hs,hn,_=>by grind
 |k+1,s,hk,hs,hn,ho=>by
  obtain⟨c,hc,e,a⟩:=F.nxt hs hn;cases h:c.dz with
  |true=>
   have:=(F.xQ hc hs e.symm).2.1 h;have:=b c hc h;exact F.last d b k c cN hc h (a.trans ho)
  |false=>
   have:=F.iK hc h;obtain rfl:=F.id hc d (this.symm.trans (a.trans ho))
   grind
theorem CZ.jS(F:CZ n M)(iK:v.dz=cy)(k:M v)(h:∀t,M t->t.dz=cx->t.cZ≠v.id):CZ n (pd v M):=by refine⟨λd f=>F.id d.1 f.1,λd=>F.lt d.1,fun {x} d e=>?_,fun {x} d e=>?_,λd e hc j=>F.one d.1 e hc.1 j.1,λd=>F.iK d.1,λd f=>F.name d.1 f.1,fun {x} d e=>?_⟩;obtain⟨u,g,a,b⟩:=F.own d.1 e;grind[pd];obtain⟨u,g,a,b⟩:=F.nxt d.1 e;exact⟨u,⟨g,λi=>h x d.1 e (by rw[<-b,i];exact F.iK k iK)⟩,a,b⟩;obtain⟨p,l,a,b,c⟩:=F.pr d.1 e;grind[pd]
theorem CZ.cut(F:CZ n M){s:du}(D:M s)(L:s.dz=cx)(l:M j)(B:j.dB=s.id)(A:j.cZ=s.cZ)(hc:∀t,M t->t.dB=s.id->t=j)(e:j'.id=j.id/\j'.dz=j.dz/\j'.cR=j.cR/\j'.dB=s.dB/\j'.cZ=j.cZ/\j'.name=j.name):CZ n (qm j j' (pd s M)):=by
 obtain⟨q,H,K,E,z,N⟩:=e;have R:=F.xQ l D B.symm;have J:dK j'=dK j:=by grind[dK]
 have ns:∀{p},M p->p.id=s.dB->p≠j:=fun {p} C e g=>by subst g;have h:=F.xQ D C e;grind
 refine⟨?_,?_,?_,?_,?_,?_,?_,?_⟩;rintro x y (f|rfl) (hy|rfl) e;exact F.id f.1.1 hy.1.1 e;exact absurd (F.id f.1.1 l (e.trans q)) f.2;exact absurd (F.id hy.1.1 l (e.symm.trans q)) hy.2;rfl;rintro x (f|rfl);exact F.lt f.1.1;rw[q];exact F.lt l;(have o:∀x,M x->x.dz=cx->∃v,qm j j' (pd s M) v/\v.dz=cy/\v.id=x.cZ:=λx f h=>by obtain⟨u,O,a,b⟩:=F.own f h;by_cases g:u=j;subst g;exact⟨j',.inr ae,H.trans a,q.trans b⟩;grind[qm,pd]);rintro x (f|rfl) h;grind[pd];grind;rintro x (f|rfl) h;obtain⟨c,i,a,b⟩:=F.nxt f.1.1 h;by_cases g:c=s;subst g;exact⟨j',.inr ae,E.trans a,z.trans (A.trans b)⟩;by_cases k:c=j;subst k;exact absurd (F.id f.1.1 D (a.symm.trans B)) f.1.2;grind[qm,pd];rw[H] at h;obtain⟨c,i,a,b⟩:=F.nxt l h;refine⟨c,.inl ⟨⟨i,λg=>?_⟩,λg=>?_⟩,a.trans q.symm,b.trans z.symm⟩;grind;subst g;exact(F.xQ l l a.symm).2.2 ae;have o:∀x d,M x->x.dz=cx->pd j (pd s M) d->s.dB=x.id->d.dB=x.id->j.cZ=x.cZ->d.cZ=x.cZ->False:=λx d f h m g k r w=>m.1.2 (F.one f h m.1.1 D k g w (A.symm.trans r));have Q:∀{d},pd j (pd s M) d->d.dB≠s.id:=fun {d} m e=>m.2 (hc d m.1.1 e);rintro x c d (f|rfl) h (i|rfl) (m|rfl) g k r w;exact F.one f.1.1 h i.1.1 m.1.1 g k r w;exact(o x c f.1.1 h i (E.symm.trans k) g (z.symm.trans w) r).elim;exact(o x d f.1.1 h m (E.symm.trans g) k (z.symm.trans r) w).elim;rfl;rw[q] at g k;rw[z] at r w;exact F.one l jH i.1.1 m.1.1 g k r w;grind;grind;rfl;rintro x (f|rfl) h;exact F.iK f.1.1 h;rw[z,q];exact F.iK l jH;rintro x y (f|rfl) (hy|rfl) e;exact F.name f.1.1 hy.1.1 e;rw[J] at e;exact absurd (F.name f.1.1 l e) f.2;rw[J] at e;exact absurd (F.name l hy.1.1 e).symm hy.2;rfl;(have o:∀x p,M x->x≠j->M p->p.id=x.dB->∃G,qm j j' (pd s M) G/\G.id=x.dB/\G.dz=p.dz/\G.cR=p.cR:=λx p f I C e=>by by_cases g:p=j;subst g;exact⟨j',.inr ae,q.trans e,H,K⟩;exact⟨p,.inl ⟨⟨C,λk=>I (hc x f (by rw[<-e,k]))⟩,g⟩,e,ae,ae⟩);rintro x (f|rfl) h;obtain⟨p,C,a,b,c⟩:=F.pr f.1.1 h;grind[pd];rw[E] at h|-;obtain⟨p,C,a,b,c⟩:=F.pr D h;grind
end
inductive wz(M:du->Prop)(o:Nat):du->List du->Nat->Prop
 |nil (s:du):wz M o s [] s.dB
 |cons {s t:du} {l:List du} {q:Nat} (h:M t) (ho:t.cZ=o) (e:t.id=s.dB) (w:wz M o t l q):wz M o s (t::l) q
theorem ae6{l:List du}(h:CY l)(id:Nat):∀(f:Nat)(c:cV)(s:du),∃ss q,zV l id f c s.dB=(c++ss.map du.id,q)/\wz (·∈l) id s ss q/\(ss.n=f∨(ss.n<f/\∀t∈l,t.id=q->q≠0->t.cZ≠id))
 |0,c,s=>⟨[],s.dB,by simp[zV],.nil s,.inl ae⟩
 |f+1,c,s=>by
  unfold zV;split
  . next e=>exact⟨[],s.dB,by simp,.nil s,.inr ⟨by simp,λ_ _ _ j=>absurd e j⟩⟩
  . cases d:fp l s.dB with
    |none=>exact⟨[],s.dB,by simp,.nil s,.inr ⟨by simp,λt b e=>absurd e (NM d b)⟩⟩
    |some i=>
     have a:=kR d;simp only;split
     . next e=>
       obtain⟨ss,q,m,k,n⟩:=ae6 h id f (c++[s.dB]) (dH l i);refine⟨dH l i::ss,q,by grind,.cons a.2.1 e a.2.2 k,?_⟩
       grind
     . next e=>exact⟨[],s.dB,by simp,.nil s,.inr ⟨by simp,λt b g _=>by rw[h.inj b a.2.1 (g.trans a.2.2.symm)];exact e⟩⟩
section
variable {n:Nat}{q:Nat}{s:du}
theorem wz.mem(w:wz M o s ss q):∀t∈ss,M t/\t.cZ=o:=by induction w<;>grind
theorem wz.next(w:wz M o s ss q):∀t∈s::ss,t.dB=q∨∃r∈ss,r.id=t.dB:=by induction w<;>grind
theorem wz.back(w:wz M o s ss q):∀t∈ss,∃r∈s::ss,r.dB=t.id:=by induction w<;>grind
theorem wz.suffix(w:wz M o s ss q){a b:List du}(e:ss=a++t::b):wz M o t b q:=by induction w generalizing a with|nil=>simp at e|@cons s r l q' h ho e' t' ih=>cases a<;>grind
theorem wz.end(w:wz M o s ss q):∃t∈s::ss,t.dB=q/\∀r∈s::ss,r=t∨∃x∈ss,x.id=r.dB:=by induction w<;>grind
theorem wz.VJ(F:CZ n M)(w:wz M o s ss q)(b:M s):(∀t∈ss,t.dz=cx/\(s.dz=cx->t.cR<s.cR))/\∀x,M x->x.id=q->∀t∈s::ss,t.dz=cx->x.cR<t.cR:=by induction w with|nil s=>exact⟨by simp,λx d e t c h=>by rw[fS.1 c] at h|-;exact(F.xQ b d e).2.1 h⟩|@cons s r l q' h ho e t' ih=>have a:=F.xQ b h e;grind
theorem wz.all(F:CZ n M)(w:wz M v.id v ss q)(j:M v)(i:∀t,M t->t.id=q->q≠0->t.cZ≠v.id)(o:∀s,M s->s.dz=cx->s.cR<top):∀(k:Nat)(t:du),top-t.cR<=k->M t->t.cZ=v.id->t∈v::ss:=by
 have JC:∀t,M t->t.dz=cy->t.cZ=v.id->t∈v::ss:=λt a f d=>by rw[F.id a j ((F.iK a f).symm.trans d)];grind
 intro k;induction k with|zero=>grind|succ k ih=>intro t m a d;cases h:t.dz with|false=>grind|true=>(obtain⟨c,hc,b,l⟩:=F.nxt a h;have e:c∈v::ss:=by cases g:c.dz with|false=>grind|true=>have:=(F.xQ hc a b.symm).2.1 g;grind);rcases w.next c e with h5|⟨r,hr,h5⟩;exact absurd d (i t a (b.symm.trans h5) (by rw[<-h5,b];exact F.ne0 a));rw[F.id a (w.mem r hr).1 (b.symm.trans h5.symm)];grind
theorem CZ.ahl(F:CZ n M)(q:∀s,M s->s.dz=cx->s.cR<top){u x:du}(z:M v)(iK:v.dz=cy)(hu:M u)(a1:u.dz=cy)(L:M x)(xs:x.dz=cx){s1 r1 i:List du}{O q2:Nat}(w1:wz M v.id v s1 O)(Y:∀t,M t->t.id=O->O≠0->t.cZ≠v.id)(K:x.id=O)(w2:wz M u.id u (r1++x::i) q2)(e2:∀t,M t->t.id=q2->q2≠0->t.cZ≠u.id)(hn:∀m∈x::i,∀t,M t->t.dz=cx->t.cZ=v.id->t.name≠m.name)(g:du->Nat)(w:∀t∈x::i,g t=v.id)(g2:∀t,t∉x::i->g t=t.cZ):CZ n (AsP g M):=by
 have V:x.cZ=u.id:=(w2.mem x eQ).2;have Q:=w2.suffix ae;have I:∀t∈x::i,M t/\t.cZ=u.id/\t.dz=cx:=λt h=>by have a:=w2.mem t (FT _ h);exact⟨a.1,a.2,((w2.VJ F hu).1 t (FT _ h)).1⟩
 have P2:∀t∈x::i,∀p,M p->p.id=t.dB->p.cZ=u.id->p∈i:=λt h p G e ho=>by rcases Q.next t h with j|⟨r,hr,j⟩;exact absurd ho (e2 p G (e.trans j) (by rw[<-j,<-e];exact F.ne0 G));rw[F.id G (Q.mem r hr).1 (e.trans j.symm)];exact hr
 have S2:∀t∈i,t.cR<x.cR:=λt h=>((Q.VJ F L).1 t h).2 xs;obtain⟨w0,T,H,U⟩:=w1.end;have A:∀t,M t->t.cZ=v.id->t∈v::s1:=λt h=>w1.all F z Y q _ t (eN _) h;have nm:∀t,M t->t.cZ=v.id->t∉x::i:=λt _ h j=>(λe=>Y x L K jH (V.trans e)) ((I t j).2.1.symm.trans h);have N:M w0/\w0.cZ=v.id:=by rcases iX.1 T with rfl|h;exact⟨z,F.iK z iK⟩;exact w1.mem w0 h
 refine⟨?_,?_,?_,?_,?_,?_,?_,?_⟩;rintro _ _ ⟨s,f,rfl⟩ ⟨t,q,rfl⟩ e;rw[F.id f q e];rintro _ ⟨s,f,rfl⟩;exact(F.lt f:);rintro _ ⟨s,f,rfl⟩ h;by_cases l:s∈x::i;exact⟨_,⟨v,z,ae⟩,iK,(w s l).symm⟩;obtain⟨y,X,a,b⟩:=F.own f h;exact⟨_,⟨y,X,ae⟩,a,b.trans (g2 s l).symm⟩;rintro _ ⟨s,f,rfl⟩ h;by_cases l:s∈x::i;rcases iX.1 l with rfl|hm2;exact⟨_,⟨w0,N.1,ae⟩,H.trans K.symm,(g2 w0 (nm w0 N.1 N.2)).trans (N.2.trans (w s l).symm)⟩;obtain⟨c,hc,e⟩:=Q.back s hm2;exact⟨_,⟨c,(I c hc).1,ae⟩,e,(w c hc).trans (w s l).symm⟩;obtain⟨c,hc,a,b⟩:=F.nxt f h;exact⟨_,⟨c,hc,ae⟩,a,(g2 c (λj=>l (kT _ (P2 c j s f a.symm (b.symm.trans (I c j).2.1))))).trans (b.trans (g2 s l).symm)⟩;rintro _ _ _ ⟨s,f,rfl⟩ h ⟨c,hc,rfl⟩ ⟨d,J,rfl⟩ B C D E;have h:s.dz=cx:=h;have B:c.dB=s.id:=B;have C:d.dB=s.id:=C;have D:g c=g s:=D;have E:g d=g s:=E;by_cases l:s∈x::i;(rw[w s l] at D E;have k:∀c,M c->c.dB=s.id->g c=v.id->(s=x/\c=w0)∨(s∈i/\c.cZ=s.cZ):=λc hc a b=>by by_cases o:c∈x::i;grind;rw[g2 c o] at b;rcases U c (A c hc b) with j|⟨y,X,j⟩;exact .inl ⟨F.id f L (a.symm.trans ((j▸H).trans K.symm)),j⟩;have:=w1.mem y X;rw[F.id this.1 f (j.trans a)] at this;grind);(have:c=d:=by rcases k c hc B D with⟨a,b⟩|⟨a,b⟩<;>rcases k d J C E with⟨a',R⟩|⟨a',R⟩;rw[b,R];grind;grind;exact F.one f h hc J B C b R);rw[this];(rw[g2 s l] at D E;have k:∀c,M c->c.dB=s.id->g c=s.cZ->c.cZ=s.cZ:=λc hc a b=>by by_cases o:c∈x::i;rw[w c o] at b;have j:=(λt h f ho=>(w1.VJ F z).2 x L K t (A t h ho) f) s f h b.symm;have Z:=(F.xQ hc f a.symm).2.1 (I c o).2.2;grind;grind);have:c=d:=F.one f h hc J B C (k c hc B D) (k d J C E);rw[this];rintro _ ⟨s,f,rfl⟩ h;exact(g2 s ((λt h j=>by grind) s h)).trans (F.iK f h)
 . (rintro _ _ ⟨s,f,rfl⟩ ⟨t,q,rfl⟩ e;have v0:=F.ne0 z;have k:∀s t,M s->M t->s∈x::i->t∉x::i->dK {s with cZ:=g s}=dK {t with cZ:=g t}->False:=λs t f q j Z e=>by unfold dK at e;grind);by_cases j:s∈x::i<;>by_cases Z:t∈x::i
   . have:s=t:=F.name f q (by
      unfold dK at e|-
      grind)
     rw[this]
   grind;grind;have:s=t:=F.name f q amm;rw[this]
 rintro _ ⟨s,f,rfl⟩ h;obtain⟨p,G,a⟩:=F.pr f h;exact⟨_,⟨p,G,ae⟩,a⟩
end
theorem ae7{s:fM}(h:ff s=cx){k:Nat}(a:k<s.s):s[k]!≠64:=λe=>by unfold ff at h;have:=rJ.1 (Bool.and_eq_true_iff.1 h).2 k (zA.2 a);rw[e] at this;revert this;decide
theorem QA{s:fM}(h:ff s=cx):eW s=cu (s,tp):=by grind[atIdx,firstIdx,ae7,zx,eW]
def xw{c:Nat×fM}(h:rW l c=cu k):k<l.n/\dK (dH l k)=c:=by
 unfold rW at h;obtain⟨a,b,_⟩:=I4.1 h;have e:dH l k=l[k]:=by unfold dH;simp[getD,a]
 exact⟨a,by rw[e];simpa using b⟩
def D6{c:Nat×fM}(h:rW l c=cw)(a:t∈l):dK t≠c:=by unfold rW at h;have:=List.findIdx?_eq_none_iff.1 h t a;simpa using this
def Bm(l:List du)(iK dz:fM)(t:du):Prop:=if dz=tp then dK t=(0,iK) else ∃v∈l,dK v=(0,iK)/\dK t=(v.id,dz)
def sa(n:CY l){dz:fM}(s:eW cT=cu (iK,dz))(h:mi l cT=cu k):k<l.n/\Bm l iK dz (dH l k)/\nJ l cT=(cu k,0):=by
 unfold mi at h;have g:∀i,i<l.n->fp l (dH l i).id=cu i:=λi f=>by obtain⟨j,m,o⟩:=n.CM (kr f).1;rw[m,n.at (kR m).1 f o]
 have d:∀r:Option Nat×Int,nJ l cT=r->∀i,r.1=cu i->i<l.n->i=k:=λr q i e p=>by rw[q,e] at h;simp only[xA] at h;rw[g i p] at h;exact wW h
 unfold nJ at*;rw[s] at*;simp only at*;unfold Bm;cases hc:rW l (0,iK) with
 |none=>rw[hc] at h;simp at h
 |some i=>
  have a:=xw hc;rw[hc] at d;simp only at d;split at d;next e=>obtain rfl:=d _ ae i ae a.1;exact⟨a.1,by rw[c8 e];exact a.2,by simp[e]⟩
  next e=>cases c:rW l ((dH l i).id,dz) with|none=>rw[hc] at h;simp only at h;rw[cX e,c] at h;simp at h|some j=>have b:=xw c;rw[c] at d;obtain rfl:=d _ ae j ae b.1;exact⟨b.1,by rw[cX e];exact⟨_,(kr a.1).1,a.2,b.2⟩,by simp only;rw[cX e,c]⟩
def GB(n:CY l)(o:∀s t,s∈l->t∈l->dK s=dK t->s=t){dz:fM}(p:eW cT=cu (iK,dz))(h:mi l cT=cw)(m:t∈l):¬Bm l iK dz t:=by
 have c:∀i,i<l.n->fp l (dH l i).id≠cw:=λi g=>by obtain⟨j,d,f⟩:=n.CM (kr g).1;rw[d];simp
 unfold mi nJ at h;rw[p] at h;simp only at h;unfold Bm;cases hc:rW l (0,iK) with
 |none=>split;exact D6 hc m;rintro⟨v,k,e,_⟩;exact D6 hc k e
 |some i=>
  have a:=xw hc;rw[hc] at h;simp only at h;split;next e=>rw[c8 e] at h;simp only[xA] at h;exact absurd h (c i a.1)
  next e=>rw[cX e] at h;cases b:rW l ((dH l i).id,dz) with|some j=>rw[b] at h;simp only[xA] at h;exact absurd h (c j (xw b).1)|none=>rintro⟨v,k,d,f⟩;rw[o v _ k (kr a.1).1 (d.trans a.2.symm)] at f;exact D6 b m f
def Rd(D:Nat->cV)(n:Nat)(r:cQ):Prop:=(∀k,k<9->GN D n (pt D r k))/\(∀k,GP D n (pt D r k))/\ae1 D r
structure Good(x:GT):Prop where
 inc:CY x.b.cU
 qD:x.b.cU.n<=32
 zt:CZ x.b.next (·∈x.b.cU)
 ti:TI (pt x.s.dv.nw) x.s.cR (·∈x.b.cU)
 rd:∀s∈x.b.cU,Rd x.s.dv.nw x.s.dv.n s.cO
 map:sU x.s.dv.n x.s.mp
 n:64<=x.s.dv.n/\x.s.dv.n<=1024
 tk:∀a,Re (pt x.s.dv.nw) (·∈x.b.cU) a->x.s.mp a=2
 ac:∀a,x.s.mp a=2->Re (pt x.s.dv.nw) (·∈x.b.cU) a∨∃q∈x.dI,q.1=a
 hd:∀q∈x.dI,x.s.mp q.1=2/\¬Re (pt x.s.dv.nw) (·∈x.b.cU) q.1/\q.2.1<=x.s.base/\q≠cY
 nd:(x.dI.map Prod.fst).Nodup
 st:x.s.base<x.s.cR
 nx:1<=x.b.next
theorem EP(D:Nat->cV)(k:Nat):pt D cY k=cY:=by simp_all[pt,II,mX]
theorem ahm(D:Nat->cV)(n:Nat):Rd D n cY:=
 ⟨λk _=>by rw[EP];exact⟨.inl ae,λh=>absurd ae h⟩,λk=>by rw[EP];exact .inl ae,λk _ _ h=>absurd (EP D k) h⟩
theorem Rd.congr{n:Nat}{r:cQ}(h:Rd D n r)(e:∀k,pt D r k≠cY->E (pt D r k).1=D (pt D r k).1):Rd E n r/\∀k,pt E r k=pt D r k:=by
 have a:=λk=>aeV (D:=D) (E:=E) (λk _=>e k) k;have d:∀k,GP E n (pt E r k):=λk=>by rw[a];rcases h.2.1 k with c|c<;>grind[GP]
 refine⟨⟨λk i=>⟨d k,λb=>?_⟩,d,λk c g f=>?_⟩,a⟩;rw[a] at b|-;rw[e k b];exact(h.1 k i).2 b;rw[a] at f|-;rw[a];exact h.2.2 k c g f
def TI.GC(T:TI f top M)(e:∀s,M s->∀k,g s.cO k=f s.cO k):TI g top M:=by refine⟨T.id,T.pos,T.st,fun {s k} h=>?_,fun {s t k l} h h'=>?_,fun {s t k} h h'=>?_,T.pr,fun {s p k} h h'=>?_,fun {s p q} h h'=>?_,T.z7⟩;rw[e s h];exact T.bt h;rw[e s h,e t h'];exact T.wy h h';rw[e s h,e t h'];exact T.GA h h';rw[e s h,e p h'];exact T.iW h h';simp only[e s h,e p h'];exact T.df h h'
theorem Re.GC(e:∀s,M s->∀k,g s.cO k=f s.cO k)(a:Nat):Re g M a↔Re f M a:=by grind[Re]
theorem Good.dev{x:GT}(G:Good x){d:Dv}(w:Wr (λa=>x.s.mp a=1) x.s.dv d):Good (asked x d):=by
 have k:∀s∈x.b.cU,∀k,pt x.s.dv.nw s.cO k≠cY->d.nw (pt x.s.dv.nw s.cO k).1=x.s.dv.nw (pt x.s.dv.nw s.cO k).1:=λs b k h=>w.nw (by
  have:=G.tk _ ⟨s,k,b,h,ae⟩;omega)
 have e:∀s∈x.b.cU,∀k,pt d.nw s.cO k=pt x.s.dv.nw s.cO k:=λs b=>((G.rd s b).congr (k s b)).2;have c:=λa=>Re.GC (M:=(·∈x.b.cU)) e a;refine⟨G.inc,G.qD,G.zt,G.ti.GC e,λs b=>?_,?_,?_,λa h=>G.tk a ((c a).1 h),λa h=>(G.ac a h).imp (c a).2 id,λq h=>?_,G.nd,G.st,G.nx⟩;show Rd d.nw d.n s.cO;rw[w.n];exact((G.rd s b).congr (k s b)).1
 show sU d.n x.s.mp;rw[w.n];exact G.map
 show 64<=d.n/\d.n<=1024;rw[w.n];exact G.n
 have:=G.hd q h;simp_all[asked]
theorem Good.leave{x:GT}(G:Good x){jS:List cQ}(f:s.dv.n=x.s.dv.n)(g:s.dv.nw=x.s.dv.nw)(v:s.base=x.s.base)(w:x.s.cR<=s.cR)(d:wO x.s.base jS x.s.mp s.mp)(m:CY b.cU)(qD:b.cU.n<=32)(zt:CZ b.next (·∈b.cU))(B:x.b.next<=b.next)(D:TI (pt x.s.dv.nw) s.cR (·∈b.cU))(o:∀t∈b.cU,t.cO=cY∨∃u∈x.b.cU,u.cO=t.cO)(y:∀q∈jS,Re (pt x.s.dv.nw) (·∈x.b.cU) q.1/\¬Re (pt x.s.dv.nw) (·∈b.cU) q.1)(z:∀a,Re (pt x.s.dv.nw) (·∈x.b.cU) a->(∀q∈jS,q.1≠a)->Re (pt x.s.dv.nw) (·∈b.cU) a):Good {x with b:=b,s:=s}:=by
 have sub:∀a,Re (pt x.s.dv.nw) (·∈b.cU) a->Re (pt x.s.dv.nw) (·∈x.b.cU) a:=by rintro a ⟨t,k,l,i,n⟩;rcases o t l with h|⟨u,hu,h⟩;rw[h,EP] at i;grind;grind[Re]
 have A:∀a,Re (pt x.s.dv.nw) (·∈x.b.cU) a->a≠0:=λa h e=>by have:=G.tk a h;have:=(G.map a).2.1 cN;omega
 refine⟨m,qD,zt,?_,λt l=>?_,?_,?_,λa h=>?_,λa h=>?_,λq h=>?_,G.nd,?_,ik G.nx B⟩;grind;(show Rd s.dv.nw s.dv.n t.cO;rw[g,f];rcases o t l with h|⟨u,hu,h⟩);grind[ahm];rw[<-h];exact G.rd u hu;show sU s.dv.n s.mp;rw[f];intro a;exact⟨d.le (λa=>(G.map a).1) a,by have:=(G.map a).2;have:=d.zero a;grind⟩
 show 64<=s.dv.n/\s.dv.n<=1024;rw[f];exact G.n
 have h:Re (pt s.dv.nw) (·∈b.cU) a:=h;rw[g] at h;exact(d.two a).2 ⟨G.tk a (sub a h),λq j _ e=>(y q j).2 jH⟩;(obtain⟨i,n⟩:=(d.two a).1 h;show Re (pt s.dv.nw) (·∈b.cU) a∨_;rw[g];rcases G.ac a i with c|c);exact .inl (z a c λq j e=>n q j (λr=>by rw[r] at e;exact A a c e.symm) e);grind;have c:=G.hd q h;refine⟨(d.two _).2 ⟨c.1,λp C _ e=>c.2.1 jH⟩,?_,by grind,c.2.2.2⟩;grind;show s.base<s.cR;rw[v];exact pK G.st w
def wO.nil(base:Nat)(m:Nat->Nat):wO base [] m m:=⟨by simp,λ_ h=>.inl h,λ_ h=>h,λ_=>.rfl,λh=>h⟩
theorem qU{s:Nat}(h:s<=281474976710655):iR s=s+1:=by grind[iR]
theorem GD(h:vE cT=cu iK):eW cT=cu (iK,tp):=by grind[vE]
theorem se{dz:fM}(h:pF cT=cu (iK,dz)):eW cT=cu (iK,dz)/\dz≠tp:=by grind[pF]
theorem D7{dz:fM}(h:eW cT=cu (iK,dz)):ff iK=cx:=by grind[eW]
def Good.names{x:GT}(G:Good x):∀s t,s∈x.b.cU->t∈x.b.cU->dK s=dK t->s=t:=λ_ _ h a e=>G.zt.name h a e
theorem VK{s:du}:(·∈l++[s])=λt=>t∈l∨t=s:=by grind
def GW(x y:GT):Prop:=Good y/\Wr (λa=>x.s.mp a=1) x.s.dv y.s.dv
theorem uE{x:GT}(G:Good x){k:GT->GT×Int}(b:Wr (λa=>x.s.mp a=1) x.s.dv (k x).1.s.dv)(c:(k x).2=0->Good (k x).1):GW x (dX x k).1:=by unfold dX r9;split;exact⟨G,.refl _⟩;split;exact⟨G.dev b,b⟩;grind[GW]
theorem Good.added{x:GT}(G:Good x)(u:x.b.next<=281474976710651)(v:x.b.cU.n<32){s:du}(g:s.dz=cy)(f:s.id=x.b.next)(ho:s.cZ=x.b.next)(i:s.df=[])(j:∀t∈x.b.cU,dK t≠dK s)(h:(s.dB=0/\s.cO=cY)∨∃p∈x.b.cU,p.dz=cx/\p.id=s.dB/\s.cO=p.cO):Good (rG x ⟨iR x.b.next,x.b.cU++[s]⟩):=by
 have l:=G.nx;have e:iR x.b.next=x.b.next+1:=qU cN;have m:∀t∈x.b.cU,t.id≠s.id/\t.dB≠s.id:=λt b=>by have a:=G.zt.lt b;refine⟨cN,λe=>?_⟩;obtain⟨p,c,q,_⟩:=G.zt.pr b cN;have:=G.zt.lt c;omega
 have c:s.dB≠0->∃p,p∈x.b.cU/\p.id=s.dB/\p.dz=cx:=λr=>by grind
 have d:s.dB≠s.id:=λo=>by grind
 have n:∀a,Re (pt x.s.dv.nw) (·∈x.b.cU) a->Re (pt x.s.dv.nw) (·∈x.b.cU++[s]) a:=λa ⟨t,k,b,h1⟩=>⟨t,k,LF _ b,h1⟩;refine G.leave (s:=x.s) (jS:=[]) ae ae ae (eN _) (.nil _ _) (G.inc.snoc λt b=>by rw[f];exact(G.zt.lt b).2) sp_ ?_ jH ?_ ?_ eQ (λa h _=>n a h);show CZ (iR x.b.next) (·∈x.b.cU++[s]);rw[e,VK];exact G.zt.add g f l ho j c
 (show TI _ _ (·∈x.b.cU++[s]);rw[VK];refine G.ti.add g cN m d i ?_);grind[EP];grind
theorem IK{x:GT}(G:Good x)(cT:fM)(n:Int):GW x (dX x (my cT n)).1:=by refine uE G ?_ ?_<;>unfold my pI;split;exact .refl _;split<;>exact .refl _;split;simp;next h1=>split;omega;next h2=>intro _;unfold iO at h2|-;split at h2;simp at h2;next iK hvol=>split at h2;simp at h2;next hr=>split at h2;simp at h2;next hl=>split at h2;simp at h2;next hn=>simp only[hvol,hr,hl,hn,mS];refine G.added cN cN ae ae ae ae (λt a e=>?_) amv;refine GB G.inc G.names (GD hvol) hn a ?_;unfold Bm;rw[c8 ae,e];rfl
theorem Good.ae8{x:GT}(G:Good x)(a:t∈x.b.cU){v:fM}(h:dK t=(0,v)):t.dz=cy/\t.name=v:=by unfold dK at h;cases e:t.dz with|false=>grind|true=>rw[e] at h;obtain⟨u,c,_,b⟩:=G.zt.own a e;have:=G.zt.lt c;grind
theorem Good.ZQ{x:GT}(G:Good x){dz:fM}(f:dz≠tp)(h:Bm x.b.cU iK dz t):t.dz=cx/\t.name=dz/\∃v∈x.b.cU,v.dz=cy/\v.name=iK/\t.cZ=v.id:=by unfold Bm at h;rw[cX f] at h;obtain⟨v,c,d,b⟩:=h;have a:=G.ae8 c d;unfold dK at b;cases e:t.dz with|false=>rw[e] at b;have:=gQ Prod.fst b;have:=G.zt.lt c;grind|true=>grind
theorem KF{x:GT}(G:Good x)(f t:fM):GW x (dX x (qL f t)).1:=by refine uE G ?_ ?_<;>unfold qL pI;split;exact .refl _;split<;>exact .refl _;split;simp;next h1=>split;omega;next h2=>intro _;unfold jA at h2|-;split at h2;simp at h2;next fs hfs=>split at h2;simp at h2;next iK hvol=>split at h2;simp at h2;next i hi=>split at h2;simp at h2;next hl=>split at h2;simp at h2;next hn=>obtain⟨g,d⟩:=fs;have a:=se hfs;have b:=sa G.inc a.1 hi;simp only[hfs,hvol,hi,hl,hn,mS];refine G.added cN cN ae ae ae ae (λt c e=>?_) (.inr ⟨_,(kr b.1).1,(G.ZQ a.2 b.2.1).1,ae,ae⟩);refine GB G.inc G.names (GD hvol) hn c ?_;unfold Bm;rw[c8 ae,e];rfl
def Good.VL{x:GT}(G:Good x):1<=x.s.cR:=by have:=G.st;omega
theorem NN{x:GT}(G:Good x)(cT:fM):GW x (dX x (vl cT)).1:=by
 refine uE G ?_ ?_<;>unfold vl;split;exact .refl _;split<;>exact .refl _;split;simp
 next h1=>
 split
 . omega
 next h2=>
 intro _;unfold iH at h2|-;split at h2
 . simp at h2
 next iK dz hfs=>
 split at h2
 . simp at h2
 next i hi=>
 split at h2
 . simp at h2
 next hl=>
 split at h2
 . simp at h2
 next hn=>
 split at h2
 . simp at h2
 next hst=>
 have a:=se hfs;have b:=sa G.inc (QA (D7 a.1)) hi;have d:=(kr b.1).1;have c:dK (dH x.b.cU i)=(0,iK):=by have:=b.2.1;unfold Bm at this;grind
 have j:=G.ae8 d c;have e:iR x.b.next=x.b.next+1:=qU cN;have k:iR x.s.cR=x.s.cR+1:=qU cN;simp only[hfs,hi,hl,hn,hst,mS];generalize hv:dH x.b.cU i=v at*;have m:=G.zt.lt d;have mem:(·∈(x.b.cU++[{v with id:=x.b.next,name:=dz,dz:=cx,cZ:=v.id,cR:=x.s.cR}]).set i {v with dB:=x.b.next,df:=[]})=λt=>qm v {v with dB:=x.b.next,df:=[]} (·∈x.b.cU) t∨t= {v with id:=x.b.next,name:=dz,dz:=cx,cZ:=v.id,cR:=x.s.cR}:=by
  funext t;rw[set_append_left _ _ b.1,gH,fS,G.inc.set b.1,hv]
 have l:∀t∈x.b.cU,t.id≠x.b.next/\t.dB≠x.b.next:=λt f=>by
  have a:=G.zt.lt f;refine⟨cN,λe=>?_⟩;obtain⟨p,g,k,_⟩:=G.zt.pr f cN;have:=G.zt.lt g;omega
 show Good {x with b:=⟨iR x.b.next,(x.b.cU++[_]).set i _⟩,s:=tW x.s};refine G.leave (s:=tW x.s) (jS:=[]) ae ae ae (by grind[tW]) (.nil _ _) ?_ sp_ ?_ jH ?_ ?_ eQ λa h _=>?_
 . rw[set_append_left _ _ b.1];refine(G.inc.EO (by rw[hv])).snoc λt f=>?_;rcases(G.inc.set b.1 t).1 f with h|rfl
   . exact(G.zt.lt h.1).2
   grind
 . rw[mem];simp only[e];exact G.zt.dz d j.1 (λp g e=>G.ti.st g (G.ti.pJ d g e).1) G.nx ⟨ae,ae,ae,ae⟩ ⟨ae,j.1,ae,ae,ae⟩ (λt f n=>by
    refine GB G.inc G.names a.1 hn f ?_;unfold Bm;rw[cX a.2];grind[dK])
 . rw[mem];show TI _ (iR _) _;rw[k];exact G.ti.dz G.VL d j.1 (show x.b.next≠0 by omega) l ⟨ae,ae,ae,ae,ae⟩ ⟨ae,j.1,ae,ae,ae⟩
 . grind
 . rw[mem];exact(ahk (M:=(·∈x.b.cU)) (v:=v) (sn:={v with id:=x.b.next,name:=dz,dz:=cx,cZ:=v.id,cR:=x.s.cR}) (v':={v with dB:=x.b.next,df:=[]}) d ae ae a).2 h
theorem Good.xQ{x:GT}(G:Good x){s:du}(a:s∈x.b.cU)(e:pt x.s.dv.nw s.cO k=q)(b:q≠cY):q.2.1<=gr x.b.cU s.id↔Up (·∈x.b.cU) s q.2.1:=by subst e;refine ae5 G.inc (λs h=>G.ti.pos h) a (G.ti.bt a b).1 λh=>?_;obtain⟨p,c,e,_⟩:=G.ti.pr a h;grind
theorem Good.all{x:GT}(G:Good x){s:du}(b:s∈x.b.cU)(h:(fR x.s s.cO (gr x.b.cU s.id)).2.2=0)(q:cQ):q∈(fR x.s s.cO (gr x.b.cU s.id)).2.1↔q≠cY/\∃k,pt x.s.dv.nw s.cO k=q/\¬Up (·∈x.b.cU) s q.2.1:=by rw[(zr x.s s.cO (gr x.b.cU s.id)).2.2.1 h (G.rd s b).2.2];constructor;rintro⟨k,_,e,a,c⟩;exact⟨a,k,e,λh=>by have:=(G.xQ b e a).2 h;omega⟩;rintro⟨a,k,e,c⟩;refine⟨k,?_,e,a,?_⟩;apply Ae;intro d;refine a (e.symm.trans ?_);unfold pt;grind;exact Nat.lt_of_not_le λh=>c ((G.xQ b e a).1 h)
theorem Good.left{x:GT}(G:Good x){s:du}(g:s∈x.b.cU)(c:CY b.cU)(qD:b.cU.n<=32)(zt:CZ b.next (·∈b.cU))(y:b.next=x.b.next)(m:TI (pt x.s.dv.nw) x.s.cR (·∈b.cU))(j:∀t∈b.cU,t.cO=cY∨∃u∈x.b.cU,u.cO=t.cO)(v:∀q k,q≠cY->pt x.s.dv.nw s.cO k=q->¬Up (·∈x.b.cU) s q.2.1->¬Re (pt x.s.dv.nw) (·∈b.cU) q.1)(w:∀a,Re (pt x.s.dv.nw) (·∈x.b.cU) a->(∀q k,q≠cY->pt x.s.dv.nw s.cO k=q->¬Up (·∈x.b.cU) s q.2.1->q.1≠a)->Re (pt x.s.dv.nw) (·∈b.cU) a):
 Wr (λa=>x.s.mp a=1) x.s.dv (oM b s x).1.s.dv/\((oM b s x).2=0->Good (oM b s x).1):=by
 have p:=zr x.s s.cO (gr x.b.cU s.id);have al:=G.all g;have i:=p.1.mono (B:=λa=>x.s.mp a=1) λ_ h=>h.elim;unfold oM vm;generalize fR x.s s.cO (gr x.b.cU s.id)=r at*;split;next h=>exact⟨i.wr,λn=>by grind[vF]⟩
 next h=>
 have l:∀q∈r.2.1,q.1<1024:=λq f=>by obtain⟨o,k,e,_⟩:=((al cN) q).1 f;have:=(G.rd s g).2.1 k;rw[e] at this;rcases this with h|h;grind;have:=G.n;omega
 have d:=rf r.2.1 r.1 l;rw[p.1.ba,p.2.1] at d;refine⟨by show Wr _ _ (dM _ _).dv;rw[d.2.1];exact i.wr,λ_=>?_⟩;refine G.leave (s:=dM r.1 r.2.1) (by rw[d.2.1];exact p.1.wr.n) (by rw[d.2.1];exact p.1.nn) d.2.2.1 (by rw[d.2.2.2,p.1.st];omega) d.1 c qD zt cN (by rw[d.2.2.2,p.1.st];exact m) j ?_ ?_;intro q f;grind[Re];grind
theorem qM{x:GT}(G:Good x){cT:fM}{i:Nat}{c:Int}(h:nK x.b.cU cT=(cu i,c)):i<x.b.cU.n/\dH x.b.cU i∈x.b.cU/\(dH x.b.cU i).dz=cy:=by unfold nK at h;split at h;cases h;next iK hv=>split at h;cases h;next j hj=>cases h;have b:=sa G.inc (GD hv) hj;have:=b.2.1;unfold Bm at this;rw[c8 ae] at this;exact⟨b.1,(kr b.1).1,(G.ae8 (kr b.1).1 this).1⟩
theorem NO{x:GT}(G:Good x)(cT:fM):GW x (dX x (uC cT)).1:=by
 have r:Wr (λa=>x.s.mp a=1) x.s.dv (uC cT x).1.s.dv/\((uC cT x).2=0->Good (uC cT x).1):=by
  unfold uC oB;split;next h=>exact⟨.refl _,λn=>absurd n h⟩
  next h2=>
  unfold jI at h2|-;split at h2;grind[nK]
  next i c hi=>
  split at h2;simp at h2
  next j hj=>
  simp only[hi,hj];have b:=qM G hi;have d:=kR hj;generalize hv:dH x.b.cU i=v at*;have up:=G.ti.pJ b.2.1 d.2.1 d.2.2;have s:∀k,pt x.s.dv.nw (dH x.b.cU j).cO k≠cY->(pt x.s.dv.nw (dH x.b.cU j).cO k).2.1<=(dH x.b.cU j).cR:=λk h=>by have:=(G.ti.bt d.2.1 h).2;simp_all[CX]
  have mem:(·∈x.b.cU.set i {v with cO:=(dH x.b.cU j).cO,df:=[]})=qm v {v with cO:=(dH x.b.cU j).cO,df:=[]} (·∈x.b.cU):=by funext t;rw[G.inc.set b.1,hv]
  have C:ae2 (pt x.s.dv.nw) (pt x.s.dv.nw) x.s.cR (·∈x.b.cU) v {v with cO:=(dH x.b.cU j).cO,df:=[]}:=
   ⟨b.2.2,⟨ae,ae,ae⟩,λ_ _ _ _=>ae,λk=>.inr (.inr (.inl ⟨_,d.2.1,d.2.2,ae⟩)),λp q o e=>by rw[G.ti.id o d.2.1 (e.trans d.2.2.symm)];simp,λ_=>ae⟩
  have m:∀q k,q≠cY->pt x.s.dv.nw v.cO k=q->¬Up (·∈x.b.cU) v q.2.1->ahj (pt x.s.dv.nw) (pt x.s.dv.nw) (·∈x.b.cU) v (dH x.b.cU j).cO q:=λq k l e f=>⟨l,k,e,λh=>f ⟨_,d.2.1,d.2.2,by grind⟩,f⟩;refine G.left b.2.1 (G.inc.EO (by rw[hv])) amg (by rw[mem];exact G.zt.sub b.2.1 ⟨ae,ae,ae,ae,ae,ae⟩) ae (by rw[mem];exact G.ti.Yt G.VL b.2.1 C) ?_ ?_ ?_;grind;intro q k l e f;rw[mem];exact G.ti.Qx b.2.1 C (m q k l e f);intro a h g;rw[mem];exact G.ti.Qy b.2.1 C h λq ⟨l,k,e,_,f⟩=>g q k l e f
 grind[uE]
theorem Good.way{x:GT}(G:Good x)(c:v∈x.b.cU)(iK:v.dz=cy):∃ss q,uZ x.b.cU v.id=(ss.map du.id,q)/\wz (·∈x.b.cU) v.id v ss q/\(ss.n=32∨∀t∈x.b.cU,t.id=q->q≠0->t.cZ≠v.id):=by obtain⟨k,d,e⟩:=G.inc.CM c;obtain⟨ss,q,f,a,b⟩:=ae6 G.inc v.id 32 [] v;refine⟨ss,q,?_,a,b.imp id And.right⟩;grind[uZ]
def Good.ZT{x:GT}(G:Good x)(d:v∈x.b.cU)(iK:v.dz=cy)(f:¬0<(uZ x.b.cU v.id).1.n):∀t,t∈x.b.cU->t.dz=cx->t.cZ≠v.id:=λt m l e=>by obtain⟨p,c,_,g,b⟩:=G.zt.last d (λs h i=>G.ti.st h i) _ t (eN _) m l e;obtain⟨ss,q,j,k,a⟩:=G.way d iK;rw[j] at f;cases ss with|cons=>simp at f|nil=>cases k;rcases a with a|a;simp at a;exact a p c b (by rw[<-b];exact G.ti.pos c) g
theorem IL{x:GT}(G:Good x)(cT:fM):Wr (λa=>x.s.mp a=1) x.s.dv (oB x (fx x.b cT)).1.s.dv/\((oB x (fx x.b cT)).2=0->Good (oB x (fx x.b cT)).1):=by
 unfold oB;split;next h=>exact⟨.refl _,λo=>absurd o h⟩
 next f=>
 unfold fx at f|-;split at f;grind[nK]
 next i c hi=>
 split at f;simp at f
 next hw=>
 simp only[hi,hw,mS];have b:=qM G hi;generalize hv:dH x.b.cU i=v at*;have mem:(·∈x.b.cU.eraseIdx i)=pd v (·∈x.b.cU):=by funext t;rw[G.inc.erase b.1,hv]
 have r:∀t,t∈x.b.cU->t.dB≠v.id:=λt d e=>by have:=(G.ti.pJ d b.2.1 e.symm).1;grind
 refine G.left b.2.1 (G.inc.Qz i) (ik (I5 _ _) G.qD) (by rw[mem];exact G.zt.jS b.2.2 b.2.1 (G.ZT b.2.1 b.2.2 hw)) ae (by rw[mem];exact G.ti.jS b.2.1 r) (λt d=>.inr ⟨t,Bz d,ae⟩) ?_ ?_;rintro q k j rfl m;rw[mem];rintro⟨t,l,d,f,n⟩;exact d.2 (G.ti.alone b.2.1 b.2.2 j m d.1 f n);rintro a ⟨t,k,d,j,rfl⟩ g;rw[mem];by_cases e:t=v;subst e;by_cases m:Up (·∈x.b.cU) t (pt x.s.dv.nw t.cO k).2.1;obtain⟨p,s,e,_,_,n⟩:=G.ti.up d j m;grind[Re,pd];grind;exact⟨t,k,⟨d,e⟩,j,ae⟩
theorem yf:∀(a b r:List cQ),jR a b=cu r->∀q,q∈r↔q∈a∨q∈b
 | [],b,r,h,q=>by grind[jR]
 |p::a,[],r,h,q=>by grind[jR]
 |p::a,c::b,r,h,q=>by
  unfold jR at h;split at h
  . obtain⟨r',d,rfl⟩:=Ad.1 h;have:=yf a (c::b) r' d q;simp only[iX,this];grind
  split at h
  . obtain⟨r',d,rfl⟩:=Ad.1 h;have:=yf (p::a) b r' d q;simp only[iX] at this|-;rw[this];grind
  . cases h
termination_by a b=>a.n+b.n
theorem FI{x:GT}(G:Good x)(cT:fM):Wr (λa=>x.s.mp a=1) x.s.dv (ud x (eu x.b cT)).1.s.dv/\((ud x (eu x.b cT)).2=0->Good (ud x (eu x.b cT)).1):=by
 unfold ud;split;exact bF;split;next h=>exact⟨.refl _,λI=>absurd I h⟩
 next D f=>
 unfold eu at f|-;split at f;simp at f
 next vs hfs=>
 split at f;simp at f
 next i hi=>
 split at f;simp at f
 next hcl=>
 split at f;simp at f
 next j hj=>
 split at f;simp at f
 next all hall=>
 split at f;simp at f
 next hlen=>
 simp only[hfs,hi,hcl,hj,hall,hlen,mS];obtain⟨R,sn⟩:=vs;have a:=se hfs;have b:=sa G.inc a.1 hi;have m:=(kr b.1).1;have p:=(G.ZQ a.2 b.2.1).1;have l:=kR hj;generalize hs:dH x.b.cU i=s at*;obtain⟨O,E,F⟩:=G.inc.CM m;have o:(dH x.b.cU j).dB=s.id/\(dH x.b.cU j).cZ=s.cZ:=by have r:=l.2.2;unfold qS at r;rw[E] at r;simp only[F,p,oQ] at r;cases A:(find? (λw=>decide (w.cZ=s.cZ)) (filter (λw=>decide (w.dB=s.id)) x.b.cU)) with|none=>rw[A] at r;exact absurd r (G.ti.pos l.2.1)|some c=>rw[A] at r;have M:=find?_some A;have H:=Ax.1 (QU A);rw[G.ti.id l.2.1 H.1 r];grind
 have n:∀t,t∈x.b.cU->t.dB=s.id->t=dH x.b.cU j:=λt C e=>by
  have:t.cZ=s.cZ:=by apply Ae;intro K;simp_all[xZ]
  exact G.zt.one m p C l.2.1 e o.1 this o.2
 generalize hjj:dH x.b.cU j=jr at*;have ne:s≠jr:=λe=>(G.ti.pJ l.2.1 m o.1.symm).2.2 e;have L:i≠j:=λe=>ne jH;have mem:(·∈(x.b.cU.set j {jr with df:=all,dB:=s.dB}).eraseIdx i)=qm jr {jr with df:=all,dB:=s.dB} (pd s (·∈x.b.cU)):=by
  funext t;rw[(G.inc.EO (by rw[hjj])).erase jH];have:dH (x.b.cU.set j {jr with df:=all,dB:=s.dB}) i=s:=by simp_all[dH,pU]
  rw[this];have st:=G.inc.set l.1 (y:={jr with df:=all,dB:=s.dB}) t;rw[hjj] at st;unfold pd qm at*;simp only[st];have Q:({jr with df:=all,dB:=s.dB}:du)≠s:=λe=>ne (G.ti.id m l.2.1 (by rw[<-e]));refine propext ⟨?_,?_⟩;rintro⟨h|rfl,f⟩;grind[pd];grind;rintro(h|rfl);grind[pd];grind
 have N:∀q,q∈jr.df->(jY q (gr x.b.cU s.id)=cx↔¬Up (·∈x.b.cU) s q.2.1):=λq v=>by obtain⟨B,k,e,_⟩:=(G.ti.df l.2.1 m o.1.symm).1 v;rw[uD,<-G.xQ m e B];grind
 have J:∀q,q∈all↔(q∈jr.df/\Up (·∈x.b.cU) s q.2.1)∨q∈s.df:=λq=>by rw[yf _ _ _ hall];unfold oZ;grind
 have u:∀q,q∈jQ jr.df (gr x.b.cU s.id)↔q∈jr.df/\¬Up (·∈x.b.cU) s q.2.1:=λq=>by grind[jQ]
 have z:∀q,q∈jr.df->Re (pt x.s.dv.nw) (·∈x.b.cU) q.1:=λq v=>by obtain⟨B,k,rfl,_⟩:=(G.ti.df l.2.1 m o.1.symm).1 v;exact⟨s,k,m,B,ae⟩
 have d:=rf (jQ jr.df (gr x.b.cU s.id)) x.s λq v=>by have:=G.tk _ (z q ((u q).1 v).1);have:=(G.map q.1).2.1 cN;have:=G.n;omega
 refine⟨by show Wr _ _ (dM _ _).dv;rw[d.2.1];exact .refl _,λ_=>?_⟩;refine G.leave (s:=dM x.s (jQ jr.df (gr x.b.cU s.id))) (by rw[d.2.1]) (by rw[d.2.1]) d.2.2.1 cN d.1 ?_ ?_ ?_ (eN _) ?_ ?_ ?_ ?_;exact CY.Qz (G.inc.EO (by rw[hjj])) i;exact ik (I5 _ _) amg;rw[mem];exact G.zt.cut m p l.2.1 o.1 o.2 n ⟨ae,ae,ae,ae,ae,ae⟩;rw[mem,d.2.2.2];exact G.ti.cut m p l.2.1 o.1 n ⟨ae,ae,ae,ae,ae⟩ J;intro t C;rcases vB (Bz C) with h|rfl<;>grind;intro q v;have:=(u q).1 v;exact⟨z q this.1,by rw[mem];exact G.ti.ae3 (j':={jr with df:=all,dB:=s.dB}) m l.2.1 o.1 n ae this.1 this.2⟩;intro a h g;rw[mem];exact G.ti.ae4 (j':={jr with df:=all,dB:=s.dB}) m l.2.1 o.1 ae h λq D f=>g q ((u q).2 ⟨D,f⟩)
theorem FJ{x:GT}(G:Good x)(cT:fM):GW x (dX x (lf cT)).1:=by
 refine uE G ?_ ?_<;>unfold lf;cases h:eW cT with|none=>exact .refl _|some p=>grind[IL,FI]
 cases h:eW cT with|none=>simp|some p=>simp only[Option.elim];split;exact(IL G cT).2;simp_all[FI]
theorem Kp.par{i k:Nat}(h:Kp i k)(a:0<k)(b:i<64):Kp i (par k):=by unfold Kp Go.Proofs.YtklligbjoplbgaaGreat.par at*;grind
theorem Ch.mono{t:Pl}{top:cQ}(C:Ch s t cO top i iW)(h:i<64)(j:ae1 s.dv.nw cO)(l:∀k,pt s.dv.nw cO k≠cY->(pt s.dv.nw cO k).2.1<=s.cR):ae1 t.dv.nw top:=by
 intro k d f c;have g:pt t.dv.nw top (par k)≠cY:=λe=>by rw[aeT _ _ d f,e,II] at c;exact c ae
 by_cases a:Kp i k;rw[(C.new k a c).1.bi,(C.new _ (a.par d h) g).1.bi];omega;rw[C.eS k a] at c|-;by_cases b:Kp i (par k);rw[(C.new _ b g).1.bi];grind;rw[C.eS _ b];exact j k d f c
theorem Good.aiZ{x:GT}(G:Good x)(o:v∈x.b.cU)(iK:v.dz=cy){t:Pl}{top:cQ}(Z:i<64)(C:Ch x.s t v.cO top i iW)(R:k<x.b.cU.n)(D:dH x.b.cU k=v)(L:ab2 v v')(E:v'.cO=top){jS:List cQ}(O:∀q,q∈v'.df↔q∈v.df∨(q∈iW/\q.2.1<=gr x.b.cU v.id))(Y:∀q,q∈jS↔q∈iW/\gr x.b.cU v.id<q.2.1):
 Good {x with b:=⟨x.b.next,x.b.cU.set k v'⟩,s:=dM t jS}:=by
 have two:∀s j,s∈x.b.cU->pt x.s.dv.nw s.cO j≠cY->x.s.mp (pt x.s.dv.nw s.cO j).1=2:=λs j h f=>G.tk _ ⟨s,j,h,f,ae⟩;have B:∀s∈x.b.cU,∀j,pt x.s.dv.nw s.cO j≠cY->t.dv.nw (pt x.s.dv.nw s.cO j).1=x.s.dv.nw (pt x.s.dv.nw s.cO j).1:=λs h j f=>C.pw.nw _ jH;have w:∀s∈x.b.cU,∀j,pt t.dv.nw s.cO j=pt x.s.dv.nw s.cO j:=λs h=>((G.rd s h).congr (B s h)).2;have U:∀j,pt x.s.dv.nw v.cO j≠cY->(pt x.s.dv.nw v.cO j).2.1<=x.s.cR:=λj h=>by have:=(G.ti.bt o h).2;grind[CX]
 have mem:(·∈x.b.cU.set k v')=qm v v' (·∈x.b.cU):=by funext t;rw[G.inc.set R,D]
 have u:∀q,q∈iW->q≠cY/\∃j,Kp i j/\pt x.s.dv.nw v.cO j=q/\pt t.dv.nw top j≠q:=λq h=>by obtain⟨f,j,a,rfl⟩:=(C.iW q).1 h;refine⟨f,j,a,ae,λe=>?_⟩;have c:=(C.new j a jH).1.fr;grind
 have F:∀j,pt x.s.dv.nw v.cO j≠cY->pt t.dv.nw top j≠pt x.s.dv.nw v.cO j->pt x.s.dv.nw v.cO j∈iW:=λj f c=>(C.iW _).2 ⟨f,j,Ae λh=>c (C.eS j h),ae⟩;have I:∀j,pt x.s.dv.nw v.cO j≠cY->((pt x.s.dv.nw v.cO j).2.1<=gr x.b.cU v.id↔Up (·∈x.b.cU) v (pt x.s.dv.nw v.cO j).2.1):=λj h=>G.xQ o ae h;have T:ae2 (pt x.s.dv.nw) (pt t.dv.nw) x.s.cR (·∈x.b.cU) v v':=by refine⟨iK,⟨L.1,L.2.2.2.1,L.2.1⟩,λs h _ j=>w s h j,λj=>?_,λp q y e=>?_,λe=>?_⟩;rw[E];by_cases a:Kp i j;by_cases f:pt t.dv.nw top j=cY;grind;have n:=(C.new j a f).1;refine .inr (.inr (.inr ⟨n.bi,λh=>by have:=G.tk _ h;have:=n.fr;omega,λl c e=>?_⟩));by_cases b:Kp i l;exact C.inj j l a b f c e;rw[C.eS l b] at c e;have:=two v l o c;have:=n.fr;grind;exact .inr (.inl (C.eS j a));(have up:=G.ti.pJ o y e;have H:∀j,pt x.s.dv.nw p.cO j≠cY->(pt x.s.dv.nw p.cO j).2.1<=p.cR:=λj h=>by have:=(G.ti.bt y h).2;simp_all[CX]);(have:=G.ti.st y up.1;have H:∀j,pt x.s.dv.nw p.cO j≠cY->pt x.s.dv.nw v.cO j≠pt x.s.dv.nw p.cO j->pt t.dv.nw top j≠pt x.s.dv.nw p.cO j:=λj f c M=>by by_cases a:Kp i j;have:=(C.new j a jH).1.bi;grind;rw[C.eS j a] at M;exact c M);rw[O,E,G.ti.df o y e];constructor;rintro(⟨f,j,rfl,c⟩|⟨c,g⟩);grind;obtain⟨f,j,a,rfl,r⟩:=u q c;obtain⟨H,J,V,_,_,X⟩:=G.ti.up o f ((I j f).1 g);rw[G.ti.id y J (e.trans V.symm)];grind;rintro⟨f,j,rfl,c⟩;by_cases g:pt x.s.dv.nw v.cO j=pt x.s.dv.nw p.cO j;rw[<-g] at f c|-;exact .inr ⟨F j f c,(I j f).2 ⟨p,y,e,by grind⟩⟩;grind;apply List.eq_nil_iff_forall_not_mem.2;intro q z;rcases(O q).1 z with h|⟨c,g⟩;rw[G.ti.z7 o e] at h;cases h;obtain⟨f,j,a,rfl,_⟩:=u q c;exact G.ti.akh e _ ((I j f).1 g)
 have F:∀q,q∈jS↔ahj (pt x.s.dv.nw) (pt t.dv.nw) (·∈x.b.cU) v v'.cO q:=λq=>by rw[Y,E];constructor;rintro⟨c,g⟩;obtain⟨f,j,a,rfl,r⟩:=u q c;exact⟨f,j,ae,r,λh=>by grind⟩;rintro⟨f,j,rfl,c,g⟩;grind
 have H:∀a,Re (pt x.s.dv.nw) (·∈x.b.cU) a->x.s.mp a=2:=G.tk;have d:=rf jS t λq z=>by obtain⟨f,j,e,_⟩:=(F q).1 z;have:=two v j o jH;rw[e] at this;have:=(G.map q.1).2.1 cN;have:=G.n;omega
 have H:t.dv.n=x.s.dv.n:=C.pw.wr.n;have N:∀j,GP t.dv.nw t.dv.n (pt t.dv.nw top j):=λj=>by by_cases f:pt t.dv.nw top j=cY;exact .inl f;by_cases a:Kp i j;have n:=(C.new j a f).1;exact .inr ⟨by rw[H];exact((G.map _).2.1 (by have:=n.fr;omega)).2,n.su⟩;rw[C.eS j a] at f|-;rcases(G.rd v o).2.1 j with h|h<;>grind[GP]
 have I:Rd t.dv.nw t.dv.n top:=by refine⟨λj Q=>⟨N j,λf=>?_⟩,N,C.mono Z (G.rd v o).2.2 U⟩;by_cases a:Kp i j;exact(C.new j a f).2 Q;rw[C.eS j a] at f|-;rw[B v o j f];exact((G.rd v o).1 j Q).2 f
 have I:∀a,t.mp a=2->x.s.mp a=2∨∃j,pt t.dv.nw top j≠cY/\(pt t.dv.nw top j).1=a:=λa h=>by by_cases c:x.s.mp a=1;rcases C.ZP a c with g|⟨_,j,_,g⟩<;>grind;rw[C.mp2 a c] at h;omega
 have U:∀a,x.s.mp a=2->t.mp a=2:=λa h=>by rw[C.mp2 a cN];exact h
 have K:∀a,Re (pt t.dv.nw) (qm v v' (·∈x.b.cU)) a->t.mp a=2:=by rintro a ⟨s,j,A|rfl,c,g⟩;rw[w s A.1] at c g;rw[<-g];exact U _ (two s j A.1 c);rw[E] at c g;by_cases b:Kp i j;rw[<-g];exact(C.new j b c).1.tk;rw[C.eS j b] at c g;grind
 refine⟨G.inc.EO (by rw[D];exact L.1),by simp;exact G.qD,?_,?_,λs A=>?_,λa=>?_,?_,λa h=>?_,λa h=>?_,λq h=>?_,G.nd,?_,G.nx⟩;show CZ x.b.next (·∈x.b.cU.set k v');rw[mem];exact G.zt.sub o L
 show TI (pt (dM t jS).dv.nw) (dM t jS).cR (·∈x.b.cU.set k v');rw[mem,d.2.1,d.2.2.2,C.pw.st];exact G.ti.Yt G.VL o T
 (show Rd (dM t jS).dv.nw (dM t jS).dv.n s.cO;rw[d.2.1];rcases(G.inc.set R s).1 A with h|rfl);rw[H];exact((G.rd s h.1).congr (B s h.1)).1;grind;(show(dM t jS).mp a<=3/\((dM t jS).mp a≠0↔4<=a/\a<(dM t jS).dv.n);rw[d.2.1,H];have m:∀a,t.mp a<=3/\(t.mp a≠0↔4<=a/\a<x.s.dv.n):=λa=>by have:=G.map a;by_cases c:x.s.mp a=1;rcases C.ZP a c with g|⟨g,_⟩<;>rw[g]<;>rw[c] at this<;>simp at this ⊢<;>exact this;rw[C.mp2 a c];exact this);exact⟨d.1.le (λa=>(m a).1) a,by have:=(m a).2;have:=d.1.zero a;grind⟩;show 64<=(dM t jS).dv.n/\_;rw[d.2.1,H];exact G.n
 have h:Re (pt (dM t jS).dv.nw) (·∈x.b.cU.set k v') a:=h;rw[d.2.1,mem] at h;exact(d.1.two a).2 ⟨K a h,λq z _ e=>G.ti.Qx o T ((F q).1 z) jH⟩;(show Re (pt (dM t jS).dv.nw) (·∈x.b.cU.set k v') a∨_;rw[d.2.1,mem];obtain⟨c,g⟩:=(d.1.two a).1 h;rcases I a c with r|⟨j,r,X⟩);rcases G.ac a r with h5|h5;exact .inl (G.ti.Qy o T h5 λq z=>g q ((F q).2 z) z.1);grind;exact .inl ⟨v',j,.inr ae,by grind,by grind⟩;have r:=G.hd q h;refine⟨(d.1.two _).2 ⟨U _ r.1,λp y _ e=>?_⟩,?_,by show q.2.1<=(dM t jS).base;rw[d.2.2.1,C.pw.ba];omega,r.2.2.2⟩;obtain⟨f,j,rfl,_⟩:=(F p).1 y;exact r.2.1 ⟨v,j,o,f,e⟩;(show¬Re (pt (dM t jS).dv.nw) (·∈x.b.cU.set k v') q.1;rw[d.2.1,mem];rintro⟨s,j,A|rfl,c,g⟩);rw[w s A.1] at c g;exact r.2.1 ⟨s,j,A.1,c,g⟩;rw[E] at c g;by_cases b:Kp i j;have:=(C.new j b c).1.fr;grind;rw[C.eS j b] at c g;exact r.2.1 ⟨v,j,o,c,g⟩;show(dM t jS).base<(dM t jS).cR;rw[d.2.2.1,d.2.2.2,C.pw.ba,C.pw.st];exact G.st
theorem ahn{l r:List cQ}(h:rB l p=cu r)(q:cQ):q∈r↔q∈l∨q=p:=by grind[rB,take_append_drop]
theorem IM(b:Nat):∀(l:List cQ)(s r:List cQ×List cQ),wm b l s=cu r->∀q,(q∈r.1↔q∈s.1∨(q∈l/\q.2.1<=b))/\(q∈r.2↔q∈s.2∨(q∈l/\b<q.2.1))
 | [],s,r,h,q=>by cases h<;>grind
 |p::l,s,r,h,q=>by
  unfold wm at h;split at h
  . next hp=>
    have:=IM b l _ r h q;simp only[gH,fS,iX] at this|-;rw[this.1,this.2];grind
  next hp=>
  split at h
  . cases h
  next m hm=>
  split at h
  . cases h
  . have:=IM b l _ r h q;have a:=ahn hm q;simp only[iX] at this|-;rw[this.1,this.2,a];grind
theorem tK(b:ej)(id r:Nat)(cO:cQ):fp (gV b id cO).cU r=fp b.cU r:=by unfold fp gV;rw[findIdx?_map];congr 1;grind
theorem Bo{l:List du}{g:du->du}{k:Nat}(h:k<l.n):dH (l.map g) k=g (dH l k):=by grind[dH]
theorem Ph(id r:Nat)(cO:cQ):gr (gV b id cO).cU r=gr b.cU r:=by
 unfold gr;rw[tK];cases h:fp b.cU r with
 |none=>rfl
 |some i=>
  have e:(dH (gV b id cO).cU i).dB=(dH b.cU i).dB:=by grind[gV,Bo,kR]
  grind[tK,gV,Bo,kR]
theorem D8(a:CY b.cU)(d:k<b.cU.n)(cO:cQ)(y:du):(gV b (dH b.cU k).id cO).cU.set k y=b.cU.set k y:=by unfold gV;apply xL;intro j;simp only[Bx,mQ,rK];split;rfl;next hne=>cases h:b.cU[j]? with|none=>rfl|some s=>(obtain⟨c,g⟩:=oF.1 h;have e:dH b.cU j=s:=by grind[dH]);simp only[Lw];rw[cX];intro f;refine hne (a.at d c ?_);exact a.inj (kr d).1 (kr c).1 (by rw[e,f])
theorem Good.Yt{x:GT}(G:Good x)(f:v∈x.b.cU)(iK:v.dz=cy){t:Pl}{top:cQ}(l:i<64)(C:Ch x.s t v.cO top i iW)(o:Wr (λa=>x.s.mp a=1) x.s.dv t.dv):
 Wr (λa=>x.s.mp a=1) x.s.dv (r8 v.id top iW {x with s:=t}).1.s.dv/\((r8 v.id top iW {x with s:=t}).2=0->Good (r8 v.id top iW {x with s:=t}).1):=by
 unfold r8 zn;split;grind[vF]
 next h2=>
 unfold jV at h2|-;split at h2;simp at h2
 next k hk=>
 split at h2;simp at h2
 next d g hkill=>
 simp only[hk,hkill];rw[tK] at hk;have c:=kR hk;have e:dH x.b.cU k=v:=G.ti.id c.2.1 f c.2.2;have h:dH (gV x.b v.id top).cU k= {v with cO:=top}:=by unfold gV;rw[Bo c.1,e,c8 ae]
 rw[h,Ph] at hkill;have m:=IM _ _ _ _ hkill;have j:(gV x.b v.id top).cU.set k {dH (gV x.b v.id top).cU k with df:=d}=x.b.cU.set k {v with cO:=top,df:=d}:=by have:=D8 G.inc c.1 top {v with cO:=top,df:=d};grind
 have n:(dM t g).dv=t.dv:=qj g t;refine⟨by grind,λ_=>?_⟩;have:=G.aiZ f iK l C c.1 e (v':={v with cO:=top,df:=d}) ⟨ae,ae,ae,ae,ae,ae⟩ ae (jS:=g) (λq=>(m q).1) (λq=>by grind);show Good {x with b:=⟨x.b.next,_⟩,s:=dM t g};rw[j];exact this
theorem Good.JC{x:GT}(G:Good x){i:Int}(h:(qJ x.b cT i).2=0):(qJ x.b cT i).1∈x.b.cU/\(qJ x.b cT i).1.dz=cy:=by
 unfold qJ at*;cases e:eW cT with
 |none=>grind
 |some p=>
  rw[e] at h;simp only[Option.elim] at h|-;split at h;next e0=>rw[c8 e0];unfold tH at*;simp only at h|-;split at h;simp at h;split at h;omega;split at h;simp at h;next h1 h2 h3=>rw[cX h1,cX h2,cX h3];simp only;unfold nJ at*;obtain⟨iK,dz⟩:=p;simp only at e0;subst e0;rw[e] at h2|-;simp only[oQ] at h2|-;cases hc:rW x.b.cU (0,iK) with|none=>grind|some k=>have a:=xw hc;have m:=(kr a.1).1;exact⟨m,(G.ae8 m a.2).1⟩
  omega
theorem Good.two{x:GT}(G:Good x)(a:v∈x.b.cU):∀k,k<9->pt x.s.dv.nw v.cO k≠cY->x.s.mp (pt x.s.dv.nw v.cO k).1≠1:=λk _ h=>by have:=G.tk _ ⟨v,k,a,h,ae⟩;omega
theorem KG{x:GT}(G:Good x)(e:lI x.s.dv.nw)(f:gU x.s.cR)(cT:fM)(i:Int)(bs:cV)(d:∀y∈bs,y<256):GW x (dX x (mM cT i bs)).1:=by
 have g:Wr (λa=>x.s.mp a=1) x.s.dv (mM cT i bs x).1.s.dv/\((mM cT i bs x).2=0->Good (mM cT i bs x).1):=by
  unfold mM;split;next h=>exact⟨.refl _,λb=>absurd b h⟩
  next h=>
  split;exact bF;have v:=G.JC bP;have c:=SL e f G.n.2 G.map (G.two v.1) (i:=i) d;unfold sS;split;next h=>exact⟨c.1.wr,λb=>by grind[vF]⟩
  next h=>exact G.Yt v.1 v.2 cN (c.2 cN).2.2.1 c.1.wr
 grind[uE]
theorem NP{x:GT}(G:Good x)(A:lI x.s.dv.nw)(B:gU x.s.cR)(cT:fM)(i:Int):GW x (dX x (rH cT i)).1:=by
 have C:Wr (λa=>x.s.mp a=1) x.s.dv (rH cT i x).1.s.dv/\((rH cT i x).2=0->Good (rH cT i x).1):=by
  unfold rH;split;next h=>exact⟨.refl _,λl=>absurd l h⟩
  next h=>
  have v:=G.JC bP;have c:=Lq A B G.n.2 G.map (G.two v.1) (i:=i);unfold sS;split;next h=>exact⟨c.1.wr,λl=>by grind[vF]⟩
  next h1=>obtain⟨_,F,q|⟨m,w,n,p,_⟩⟩:=c.2 cN;exact G.Yt v.1 v.2 cN q.1 c.1.wr;generalize iF x.s (qJ x.b cT i).1.cO i=T at*;obtain⟨t,r,o,E⟩:=T;simp only at n p m w c|-;subst n p;unfold r8 zn;split;(next h=>exact⟨c.1.wr,λl=>by grind[vF]⟩);next h2=>unfold jV at h2|-;split at h2;simp at h2;next k hk=>(simp only[hk,wm];rw[tK] at hk;have f:=kR hk;have g:dH x.b.cU k=(qJ x.b cT i).1:=G.ti.id f.2.1 v.1 f.2.2;have u:dH (gV x.b (qJ x.b cT i).1.id (qJ x.b cT i).1.cO).cU k=(qJ x.b cT i).1:=by unfold gV;rw[Bo f.1,g,c8 ae]);(have y:(gV x.b (qJ x.b cT i).1.id (qJ x.b cT i).1.cO).cU.set k {dH (gV x.b (qJ x.b cT i).1.id (qJ x.b cT i).1.cO).cU k with df:=(dH (gV x.b (qJ x.b cT i).1.id (qJ x.b cT i).1.cO).cU k).df}=x.b.cU:=by have a:=D8 G.inc f.1 (qJ x.b cT i).1.cO (qJ x.b cT i).1;rw[g] at a;rw[u];refine a.trans ?_;apply xL;intro j;rw[Bx];split;(next e=>subst e;rw[c8 f.1,(kr f.1).2,g]);rfl);(refine⟨c.1.wr,λ_=>?_⟩;have:=G.dev c.1.wr;show Good {x with b:=⟨x.b.next,_⟩,s:=t};rw[y];have z:t= {x.s with dv:=t.dv}:=by obtain⟨a,b,D,d⟩:=t;simp only at m;subst m;have:=c.1.st;have:=c.1.ba;grind);rw[z];exact this
 grind[uE]
theorem ai0{a b:cV}(h:a.Nodup)(g:∀n∈a,n∈b):a.n<=b.n:=by induction a generalizing b with|nil=>simp|cons x a ih=>rw[yo] at h;have:=ih (b:=b.erase x) h.2 λn c=>(mem_erase_of_ne (λe=>by grind)).2 (g n (kT _ c));grind
theorem wz.nodup{n:Nat}(F:CZ n M){q:Nat}{s:du}(w:wz M o s ss q)(c:M s):((s::ss).map du.id).Nodup:=by induction w with|nil s=>simp|@cons s t l q h ho e w ih=>rw[yh,yo];refine⟨λf=>?_,ih h⟩;obtain⟨r,b,d⟩:=gT.1 f;have a:=((wz.cons h ho e w).VJ F c).1 r b;rw[F.id ((wz.cons h ho e w).mem r b).1 c d] at a;grind
theorem Good.akj{x:GT}(G:Good x)(d:v∈x.b.cU)(iK:v.dz=cy):∃ss q,uZ x.b.cU v.id=(ss.map du.id,q)/\wz (·∈x.b.cU) v.id v ss q/\(∀t,t∈x.b.cU->t.id=q->q≠0->t.cZ≠v.id):=by
 obtain⟨ss,q,e,a,f⟩:=G.way d iK;refine⟨ss,q,e,a,f.resolve_left λh=>?_⟩;have b:=ai0 (a.nodup G.zt d) (b:=x.b.cU.map du.id) λn g=>by obtain⟨t,c,rfl⟩:=gT.1 g;refine gT.2 ⟨t,?_,ae⟩;rcases iX.1 c with rfl|c;exact d;exact(a.mem t c).1
 have:=G.qD;grind
theorem ZU{l:List du}(d:CY l)(id:Nat):∀(ms b:cV)(r:List du),zi l id ms (l.map λt=>{t with cZ:=if t.id∈b then id else t.cZ})=cu r->r=l.map (λt=>{t with cZ:=if t.id∈b∨t.id∈ms then id else t.cZ})/\∀t∈l,t.id∈ms->∀u∈l,u.dz=cx->u.cZ=id->u.name≠t.name
 | [],b,r,h=>by cases h<;>grind
 |m::ms,b,r,h=>by
  unfold zi at h;split at h
  . cases h
  next j hj=>
  have p:=kR hj;split at h
  . cases h
  next hany=>
  have e:(l.map λt=>{t with cZ:=if t.id∈b then id else t.cZ}).set j {dH (l.map λt=>{t with cZ:=if t.id∈b then id else t.cZ}) j with cZ:=id}=l.map λt=>{t with cZ:=if t.id∈b++[m] then id else t.cZ}:=by
   rw[Bo p.1];apply xL;intro i;simp only[Bx,rK,mQ];split
   . next e=>subst e;rw[c8 p.1,(kr p.1).2];simp[p.2.2]
   . next hne=>
     cases h:l[i]? with
     |none=>rfl
     |some s=>
      obtain⟨c,v⟩:=oF.1 h;have e:dH l i=s:=by grind[dH]
      have:s.id≠m:=λk=>hne (d.at p.1 c (d.inj p.2.1 (kr c).1 jH));simp[this]
  rw[e] at h;have a:=ZU d id ms (b++[m]) r h;refine⟨by grind,λt g f u w n o q=>?_⟩;rcases iX.1 f with rfl|f
  . rw[d.inj p.2.1 g p.2.2] at hany
    grind[Kj]
  grind
theorem Cp{x:GT}(G:Good x)(d:¬(fT x.b cT).2≠0):∃v∈x.b.cU,∃p:cV,(fT x.b cT).1=⟨x.b.next,x.b.cU.map λt=>{t with cZ:=if t.id∈p then v.id else t.cZ}⟩/\(∀t∈x.b.cU,t.id∈p->t.dz=cx)/\CZ x.b.next (·∈(fT x.b cT).1.cU)/\TI (pt x.s.dv.nw) x.s.cR (·∈(fT x.b cT).1.cU):=by
 unfold fT at d|-;split at d;grind[nK]
 next i c hi=>
 split at d;simp at d
 next o ho=>
 split at d;simp at d
 next r hr=>
 simp only[hi,ho,hr];have b:=qM G hi;have op:=kR ho;generalize hv:dH x.b.cU i=v at*;generalize hx:dH x.b.cU o=y at*;obtain⟨V,U,w1,w2,Q⟩:=G.akj b.2.1 b.2.2;rw[w1] at op;have C:y.dz=cx:=by obtain⟨t,a,e,_⟩:=w2.end;refine(G.zt.xQ (s:=t) ?_ op.2.1 (op.2.2.trans e.symm)).1;rcases iX.1 a with rfl|a;exact b.2.1;exact(w2.mem t a).1
 obtain⟨u,z,H,F⟩:=G.zt.own op.2.1 C;obtain⟨s2,q2,T,w,I⟩:=G.akj z H;have R:y∈s2:=by rcases iX.1 (w.all G.zt z I (λs h A=>G.ti.st h A) _ y (eN _) op.2.1 F.symm) with h|h<;>grind
 have l:∃E f,s2=E++y::f/\yd x.b.cU y=(y::f).map du.id:=by unfold yd abm;rw[<-F,T];simp only;cases M:(s2.map du.id).findIdx? (λn=>decide (n=y.id)) with|none=>grind|some k=>(obtain⟨j,d,_⟩:=I4.1 M;have B:k<s2.n:=by grind);have e:s2[k]=y:=G.ti.id (w.mem _ (mP B)).1 op.2.1 jH;refine⟨s2.take k,s2.drop (k+1),?_,?_⟩;grind[getElem_cons_drop,take_append_drop];grind[map_drop,getElem_cons_drop]
 obtain⟨E,f,J,K⟩:=l;rw[K] at hr;have N:(x.b.cU.map λt=>({t with cZ:=if t.id∈([]:cV) then v.id else t.cZ}:du))=x.b.cU:=by simp
 have D:=ZU G.inc v.id ((y::f).map du.id) [] r jH;have g:∀t∈y::f,t∈x.b.cU:=λt a=>(w.mem t jH).1;have q:∀t,t∈x.b.cU->(t.id∈(y::f).map du.id↔t∈y::f):=λt a=>by constructor;intro h;obtain⟨O,j,d⟩:=gT.1 h;rw[<-G.ti.id (g O j) a d];exact j;grind
 have mem:(·∈r)=AsP (λt=>@ite _ (t∈y::f) (Classical.propDecidable _) v.id t.cZ) (·∈x.b.cU):=by funext t;rw[D.1,gT];unfold AsP;apply propext;constructor;grind;grind
 refine⟨v,b.2.1,(y::f).map du.id,by simp_all,λt a h=>?_,?_,?_⟩;have:=(q t a).1 h;rcases iX.1 this with rfl|h;exact C;exact((w.VJ G.zt z).1 t jH).1;show CZ _ (·∈r);rw[mem];refine G.zt.ahl (λs h A=>G.ti.st h A) b.2.1 b.2.2 z H op.2.1 C w2 Q op.2.2 (J▸w) I (λm l t a j d L=>D.2 m (g m l) ((q m (g m l)).2 l) t a j d L) _ (λt a=>c8 a) (λt a=>cX a)
 show TI _ _ (·∈r);rw[mem];exact G.ti.aiX _
theorem FK{x:GT}(G:Good x)(cT:fM):GW x (dX x (lY cT)).1:=by
 refine uE G ?_ ?_<;>unfold lY;split<;>exact .refl _;split;omega
 next h2=>
 intro _;obtain⟨v,i,c,e,_,zt,f⟩:=Cp G h2;rw[e] at zt f|-;have g:∀a,Re (pt x.s.dv.nw) (·∈x.b.cU) a->Re (pt x.s.dv.nw) (·∈x.b.cU.map λt=>{t with cZ:=if t.id∈c then v.id else t.cZ}) a:=λa ⟨t,k,d,h⟩=>⟨_,k,gT.2 ⟨t,d,ae⟩,h⟩;show Good {x with b:=⟨x.b.next,_⟩,s:=x.s};refine G.leave (s:=x.s) (jS:=[]) ae ae ae (eN _) (.nil _ _) (G.inc.map λ_=>ae) amg zt (eN _) f (λt d=>?_) eQ (λa h _=>g a h)
 grind
theorem Bp(s:Pl)(i:Nat)(b:cV):PW (λa=>a=i/\s.mp a=2) s (eY s i b).1/\(eY s i b).1.mp=s.mp/\((eY s i b).2.2=0->s.mp i=2/\i<s.dv.n/\(eY s i b).2.1=(i,s.cR,kZ (pD b))/\(eY s i b).1.dv.nw=iM s.dv.nw i (pD b))/\(s.dv.al->b.n<=128->s.mp i=2->i<1024->i<s.dv.n->(eY s i b).2.2=0):=by unfold eY;split;exact⟨.refl _,ae,by simp,cN⟩;split;grind[VI];next h=>exact⟨.refl _,ae,by simp,λ_ _ c d _=>absurd ⟨cN,cN,c⟩ h⟩
theorem NQ{ee:cV}(a:Pl×(List cQ×Int))(b:cV)(d:a.1.mp 0≠2):PW (·∈ee) a.1 (ig ee a b).1/\(ig ee a b).1.mp=a.1.mp:=by
 have g:=Bp a.1 (ee.getD a.2.1.n 0) b;have k:PW (·∈ee) a.1 (eY a.1 (ee.getD a.2.1.n 0:Nat) b).1:=g.1.mono λc ⟨h1,h2⟩=>by grind
 unfold ig;split;exact⟨.refl _,ae⟩;grind
def SN{α:Type}{A:Nat->Prop}{m:Nat->Nat}{f:Pl×(List cQ×Int)->α->Pl×(List cQ×Int)}(h:∀a x,a.1.mp=m->PW A a.1 (f a x).1/\(f a x).1.mp=a.1.mp):∀(l:List α)(a:Pl×(List cQ×Int)),a.1.mp=m->PW A a.1 (l.foldl f a).1/\(l.foldl f a).1.mp=m
 | [],a,e=>⟨.refl _,e⟩
 |x::l,a,e=>by
  have g:=h a x e;have k:=SN h l (f a x) (g.2.trans e);exact⟨g.1.trans k.1,k.2⟩
theorem D9(ee:cV)(a:Pl×(List cQ×Int))(b:List cQ):gX ee a b=(match mW (λi=>b.getD i cY) with|none=>if a.2.2≠0 then a else(a.1,([],51))|some sec=>ig ee a sec):=by grind[gX,ig]
theorem VM(a:Pl×(List cQ×Int))(b:List cQ)(c:a.1.mp 0≠2):PW (·∈ee) a.1 (gX ee a b).1/\(gX ee a b).1.mp=a.1.mp:=by rw[D9];split;split<;>exact⟨.refl _,ae⟩;grind[NQ]
theorem NR{ee:cV}:∀(ps:List cV)(f d post:cV)(s:Pl)(b:List cQ),d.n=b.n->f.n=ps.n->ee=d++(f++post)->f.Nodup->
 ((ps.foldl (ig ee) (s,(b,0))).2.2=0->(ps.foldl (ig ee) (s,(b,0))).2.1=b++zipWith (λa p=>(a,s.cR,kZ (pD p))) f ps/\PW (·∈f) s (ps.foldl (ig ee) (s,(b,0))).1/\(∀j(h:j<f.n)(A:j<ps.n),(ps.foldl (ig ee) (s,(b,0))).1.dv.nw f[j]=pD ps[j])/\∀a∈f,a<s.dv.n)/\
 (s.dv.al->(∀a∈f,s.mp a=2/\a<1024/\a<s.dv.n)->(∀p∈ps,p.n<=128)->(ps.foldl (ig ee) (s,(b,0))).2.2=0)
 | [],f,d,post,s,b,h1,h2,h3,h4=>by
  have:f=[]:=by grind
  subst this;exact⟨λ_=>⟨by simp,.refl _,λj h=>by simp at h,by simp⟩,λ_ _ _=>ae⟩
 |p::ps,[],d,post,s,b,h1,h2,h3,h4=>by simp at h2
 |p::ps,a::f,d,post,s,b,h1,h2,h3,h4=>by
  have z:ee.getD b.n 0=a:=by grind
  have g:=Bp s a p;have st:ig ee (s,(b,0)) p=if(eY s a p).2.2≠0 then((eY s a p).1,([],(eY s a p).2.2)) else((eY s a p).1,(b++[(eY s a p).2.1],0)):=by
   grind[ig]
  have k:∀(l:List cV)(x:Pl)c,c≠0->l.foldl (ig ee) (x,([],c))=(x,([],c)):=λl x c hc=>by
   induction l<;>grind[Ic]
  rw[zC,st];rw[yo] at h4;by_cases e:(eY s a p).2.2=0
  . rw[cX cN];have w:=g.2.2.1 e;obtain⟨r,t⟩:=NR (ee:=ee) ps f (d++[a]) post (eY s a p).1 (b++[(eY s a p).2.1]) (by simp[h1]) jH (by simp[h3]) h4.2;refine⟨λh=>?_,λm y n=>?_⟩
    . obtain⟨u,i,C,v⟩:=r h;refine⟨?_,(g.1.mono λc hc=>by grind).trans (i.mono λc hc=>kT _ hc),?_,?_⟩
      . rw[u,w.2.2.1,g.1.st];simp
      . intro j B h6;cases j with
        |zero=>
         simp only[getElem_cons_zero];rw[i.nw a h4.1,w.2.2.2];simp[iM]
        |succ j=>grind
      . intro c hc;rcases iX.1 hc with rfl|hc
        . exact w.2.1
        . have:=v c hc;rw[g.1.wr.n] at this;exact this
    . refine t (g.1.wr.al m) (λc hc=>?_) λq o=>n q (kT _ o);rw[g.2.1,g.1.wr.n];grind
  grind
def FM(p:List cQ):cV:=(mW λi=>p.getD i cY).getD []
theorem JD{ee:cV}:∀(ps:List (List cQ))(a:Pl×(List cQ×Int)),((ps.foldl (gX ee) a).2.2=0∨∀p∈ps,(mW λi=>p.getD i cY).isSome=cx)->ps.foldl (gX ee) a=(ps.map FM).foldl (ig ee) a/\(a.2.2=0->(ps.foldl (gX ee) a).2.2=0->∀p∈ps,(mW λi=>p.getD i cY)=cu (FM p))
 | [],a,_=>⟨ae,by simp⟩
 |p::ps,a,h=>by
  have d:∀(l:List (List cQ))(a:Pl×(List cQ×Int)),a.2.2≠0->l.foldl (gX ee) a=a:=λl a hc=>by
   induction l with
   |nil=>rfl
   |cons q l ih=>simp_all[gX]
  have c:∀(l:List cV)(a:Pl×(List cQ×Int)),a.2.2≠0->l.foldl (ig ee) a=a:=λl a hc=>by
   induction l with
   |nil=>rfl
   |cons q l ih=>simp_all[ig]
  by_cases j:a.2.2=0
  . rw[zC,yh,zC] at*;have b:=D9 ee a p;cases e:mW (λi=>p.getD i cY) with
    |none=>
     simp_all
    |some sec=>
     rw[e] at b;simp only at b;have f:FM p=sec:=by grind[FM]
     rw[b] at h|-;rw[f];obtain⟨k,m⟩:=JD ps (ig ee a sec) (h.imp id λh q g=>h q (kT _ g))
     grind
  grind
def oK{α:Type}(n:Nat):Nat->List α->List (List α)
 |0,_=> []
 |k+1,l=>l.take n::oK n k (l.drop n)
theorem JE{α:Type}(n:Nat):∀(k:Nat)(l:List α),(finRange k).map (λj=>(l.drop (j.val*n)).take n)=oK n k l
 |0,_=>rfl
 |k+1,l=>by
  rw[finRange_succ,yh,wU,oK,<-JE n k (l.drop n)];congr 1
  . simp
  . apply map_congr_left;intro j _;simp only[Function.comp,drop_drop,Fin.val_succ];grind
theorem uF{α:Type}(n:Nat):∀(k:Nat)(l:List α),(oK n k l).n=k
 |0,_=>rfl
 |k+1,l=>by rw[oK,lq,uF]
def vu(D:Nat->cV)(st:Nat)(b:cV):List cQ:=b.map λa=>(a,st,kZ (D a))
def Lv(D:Nat->cV)(n:Nat):List cQ->List cQ->Prop
 | [],low=>low=[]
 |q::high,low=>low≠ []/\q≠cY/\GN D n q/\nd D q=(λi=>(low.take 8).getD i cY)/\Lv D n high (low.drop 8)
theorem ZV(c:Nat):∀(d a b:List cQ)(s:Pl),s.dv.df=cy->(∀q∈a,q≠cY)->Lv s.dv.nw s.dv.n d a->b.n+a.n=c->∃t,d.foldl (fX c) (s,(b,0))=(t,(b++a,0))/\PW (λ_=>False) s t/\t.mp=s.mp/\t.dv.df=cy
 | [],a,b,s,hd,_,h,_=>by cases h;exact⟨s,by simp,.refl _,ae,hd⟩
 |q::d,a,b,s,hd,hn,h,hw=>by
  obtain⟨o,r,g,i,j⟩:=h;have x:=SK hd g;have e:=Co (A:=λ_=>False) s q;have f:(dw s q).1.dv.df=cy:=by grind[dw,gz,iq,fm]
  have v:min 8 (c-b.n)=(a.take 8).n:=by grind
  have u:zY (nd s.dv.nw q) (a.take 8).n=cx:=by
   unfold zY;grind
  have y:(mq (nd s.dv.nw q)).take (a.take 8).n=a.take 8:=by
   rw[i];unfold mq;apply xL;grind
  have st:fX c (s,(b,0)) q=((dw s q).1,(b++a.take 8,0)):=by
   simp_all[fX]
  rw[zC,st];obtain⟨t,w,l,m,n⟩:=ZV c d (a.drop 8) (b++a.take 8) (dw s q).1 f (λp k=>hn p (mR k)) (by rw[e.1.nn,e.1.wr.n];exact j) jH;exact⟨t,by simp_all,e.1.trans l,m.trans e.2,n⟩
theorem Lv.congr{n:Nat}:∀{a b:List cQ},Lv D n a b->(∀q∈a,E q.1=D q.1)->Lv E n a b
 | [],b,h,_=>h
 |q::a,b,⟨h1,h2,h3,h4,h5⟩,e=>by
  have c:=e q nB;refine⟨h1,h2,⟨?_,λ_=>by rw[c];exact h3.2 h2⟩,by grind[xv],h5.congr λp d=>e p (kT _ d)⟩;rcases h3.1 with h|h<;>grind[GP]
theorem ahY{D:Nat->cV}{n st:Nat}(f:1<=st):∀(d:cV)(b:List cQ),(∀q∈b,dD q)->b.n<=8*d.n->8*d.n<b.n+8->(∀a∈d,a<n)->(∀j(h:j<d.n)(k:j<(oK 8 d.n b).n),(mW λi=>(oK 8 d.n b)[j].getD i cY)=cu (D d[j]))->Lv D n (vu D st d) b
 | [],b,_,h,_,_,_=>(by simp_all:b=[])
 |a::d,b,hp,h1,h2,h3,h4=>by
  have e:=h4 0 eQ (by simp[oK]);simp only[getElem_cons_zero,oK,lq] at e;have ne:((a,st,kZ (D a)):cQ)≠cY:=λe=>by simp_all[cY]
  have r:=(KE e (λi _=>by
   grind[dV]) (λi m=>by
   grind)).2
  have o:0<b.n:=by grind
  refine⟨λh=>by grind,ne,⟨.inr ⟨h3 a nB,ae⟩,λ_=>by rw[r];rfl⟩,by simp_all[nd],?_⟩;refine ahY f d (b.drop 8) (λq g=>hp q (mR g)) jH jH (λc hc=>h3 c (kT _ hc)) λj l h6=>?_;have:=h4 (j+1) jH (by grind[uF])
  grind[oK]
theorem SO{D:Nat->cV}{st:Nat}:∀(b:cV)(ps:List cV),b.n=ps.n->(∀j(h:j<b.n)(f:j<ps.n),D b[j]=pD ps[j])->zipWith (λa p=>(a,st,kZ (pD p))) b ps=vu D st b
 | [],_,_,_=>by rfl
 |a::b,[],h,_=>by simp at h
 |a::b,p::ps,h,g=>by
  have c:=g 0 eQ eQ;simp only[getElem_cons_zero] at c;have:=SO (D:=D) (st:=st) b ps bP λj d e=>by have:=g (j+1) (by simpa using d) (by simpa using e);simpa using this
  unfold vu at*;simp[c,this]
theorem ae9(l:Nat):l<=8*fA l 8/\8*fA l 8<l+8:=by grind[fA]
theorem Yu(B:1<=s.cR){b post:cV}(C:b.n=fA ps.n 8)(A:b.Nodup)(c:∀q∈ps,dD q):
 ((eV s ps (b++post)).2.2=0->(eV s ps (b++post)).2.1=vu (eV s ps (b++post)).1.dv.nw s.cR b/\PW (·∈b) s (eV s ps (b++post)).1/\Lv (eV s ps (b++post)).1.dv.nw s.dv.n (eV s ps (b++post)).2.1 ps/\(∀a∈b,kb ((eV s ps (b++post)).1.dv.nw a))/\∀a∈b,a<s.dv.n)/\
 (s.dv.al->(∀a∈b,s.mp a=2/\a<1024/\a<s.dv.n)->(∀q∈ps,im q=cx)->(eV s ps (b++post)).2.2=0):=by
 have x:eV s ps (b++post)=(oK 8 b.n ps).foldl (gX (b++post)) (s,([],0)):=by unfold eV;rw[C,<-JE];rfl
 rw[x];have d:∀p∈oK 8 b.n ps,(mW λi=>p.getD i cY).isSome=cx->kb (FM p):=λp _ h=>by grind[FM,mW,qY,mB,pW,kb]
 have t:=NR (ee:=b++post) ((oK 8 b.n ps).map FM) b [] post s [] ae (by simp[uF]) eQ A;refine⟨λh=>?_,λu v F=>?_⟩
 . (have r:=JD (oK 8 b.n ps) (s,([],0)) (.inl h);have ns:=r.2 ae h;rw[r.1] at h|-;obtain⟨m,D,o,E⟩:=t.1 h;have e:∀j(h:j<b.n)(f:j<((oK 8 b.n ps).map FM).n),(foldl (ig (b++post)) (s,([],0)) ((oK 8 b.n ps).map FM)).1.dv.nw b[j]=((oK 8 b.n ps).map FM)[j]:=λj h f=>by rw[o j h f,getElem_map];have z:=mP (l:=oK 8 b.n ps) (n:=j) jH;exact Jk (d _ z jH).1);have w:=SO (st:=s.cR) b _ (by simp[uF]) o;rw[pL] at m;refine⟨m.trans w,D,?_,λa y=>?_,E⟩;(case refine_2=>obtain⟨j,G,rfl⟩:=yk y;grind[uF]);grind[ae9,ahY]
 (have al:∀p∈oK 8 b.n ps,(mW λi=>p.getD i cY).isSome=cx:=by(have:∀(k:Nat)(l:List cQ),(∀q∈l,im q=cx)->∀p∈oK 8 k l,(mW λi=>p.getD i cY).isSome=cx:=by intro k;induction k with|zero=>intro l _ p c;cases c|succ k ih=>intro l H p c;rcases iX.1 c with rfl|c;(have:KX (λi=>(l.take 8).getD i cY) 8=cx:=by grind[KX,im]);simp_all[mW];grind);grind);rw[(JD (oK 8 b.n ps) (s,([],0)) (.inr al)).1];refine t.2 u v λp c=>?_;obtain⟨q,g,rfl⟩:=gT.1 c;rw[(d q g (al q g)).1];omega
inductive Path(D:Nat->cV)(n:Nat):List cQ->List (List cQ)->List cQ->Prop
 |nil (h:List cQ):Path D n h [] h
 |cons {h m l:List cQ} {ms:List (List cQ)} (a:Lv D n h m) (b:Path D n m ms l):Path D n h (m::ms) l
theorem Path.snoc{n:Nat}{m l:List cQ}(p:Path D n h ms m)(a:Lv D n m l):Path D n h (ms++[l]) l:=by induction p with|nil h=>exact .cons a (.nil l)|cons b _ ih=>exact .cons b (ih a)
theorem QB:∀(ms:List (List cQ))(c e d:List cQ)(s:Pl),s.dv.df=cy->Path s.dv.nw s.dv.n c ms e->(∀m∈ms,∀q∈m,q≠cY)->∃t,(ms.map length).foldl ji (s,(c,d,0))=(t,(e,d++ms.flatten,0))/\PW (λ_=>False) s t/\t.mp=s.mp/\t.dv.df=cy
 | [],c,e,d,s,hd,p,_=>by cases p;exact⟨s,by simp,.refl _,ae,hd⟩
 |m::ms,c,e,d,s,hd,p,hn=>by
  cases p with
  |cons a b=>
   obtain⟨t,o,f,k,l⟩:=ZV m.n c m [] s hd (hn m nB) a eQ;have st:ji (s,(c,d,0)) m.n=(t,(m,d++m,0)):=by
    grind[ji,fY]
   obtain⟨u,n,h,i,j⟩:=QB ms m e (d++m) t l (by rw[f.nn,f.wr.n];exact b) (λx g=>hn x (kT _ g));exact⟨u,by grind,f.trans h,i.trans k,j⟩
def ahZ{t:Pl}(p:PW A s t)(h:lI s.dv.nw)(g:∀a,A a->kb (t.dv.nw a)):lI t.dv.nw:=λa=>by by_cases e:A a;exact g a e;rw[p.nw a e];exact h a
theorem QC(D:Nat->cV)(st:Nat)(a:cV):(vu D st a).map Prod.fst=a:=by unfold vu;rw[wU];exact map_id'' (λ_=>ae) _
theorem IN{D:Nat->cV}{st:Nat}{b:cV}(h:lI D)(d:gU st)(f:∀a∈b,a<1024):∀q∈vu D st b,dD q:=by intro q c;obtain⟨a,e,rfl⟩:=gT.1 c;exact⟨by grind,d,Du _ (h a).2⟩
theorem Lr{α:Type}{f:Pl×(List cQ×Int)->α->Pl×(List cQ×Int)}(h:∀a x,(f a x).1.mp=a.1.mp):∀(l:List α)(a:Pl×(List cQ×Int)),(l.foldl f a).1.mp=a.1.mp
 | [],_=>rfl
 |x::l,a=>(Lr h l (f a x)).trans (h a x)
theorem GF(ee:cV)(a:Pl×(List cQ×Int))(b:cV):(ig ee a b).1.mp=a.1.mp:=by grind[Bp,ig]
theorem VN(ee:cV)(a:Pl×(List cQ×Int))(b:List cQ):(gX ee a b).1.mp=a.1.mp:=by grind[D9,GF]
theorem VO(s:Pl)(ps:List cQ)(ee:cV):(eV s ps ee).1.mp=s.mp:=Lr (VN ee) _ _
theorem IP{f:Nat}{s:Pl}{c:Int}{ee:cV}{L:List cQ}(h:c≠0):jk f (s,(L,c)) ee=(s,(L,c)):=by cases f with|zero=>rfl|succ f=>simp_all[jk]
structure ah0(D:Nat->cV)(n st:Nat)(top:cQ)(ms:List (List cQ))(L:List cQ)(ats:cV)(ls:cV):Prop where
 path:Path D n [top] ms L
 len:([top]::ms).map length=ls.reverse
 perm:(([top]::ms).flatten.map Prod.fst).Perm (ats++L.map Prod.fst)
 st:∀m∈ [top]::ms,∀q∈m,q∈L∨(q.2.1=st/\q≠cY)
 parts:dD top
theorem QD:∀(f:Nat)(s:Pl)(L:List cQ)(ats:cV),1<=s.cR->gU s.cR->lI s.dv.nw->s.dv.n<=1024->(∀q∈L,dD q)->1<=L.n->L.n<=8^f->ats.n+L.n=(j0 f L.n).sum->ats.Nodup->
 ((jk f (s,(L,0)) ats).2.2=0->∃top ms,(jk f (s,(L,0)) ats).2.1=[top]/\ah0 (jk f (s,(L,0)) ats).1.dv.nw s.dv.n s.cR top ms L ats (j0 f L.n)/\PW (·∈ats) s (jk f (s,(L,0)) ats).1/\lI (jk f (s,(L,0)) ats).1.dv.nw)/\
 (s.dv.al->(∀a∈ats,s.mp a=2/\4<=a/\a<s.dv.n)->s.cR<=281474976710655->(∀q∈L,im q=cx)->(jk f (s,(L,0)) ats).2.2=0):=by
 have o:∀(g:Nat)(s:Pl)(L:List cQ)(ats:cV),lI s.dv.nw->(∀q∈L,dD q)->L.n=1->ats.n+L.n=(j0 g L.n).sum->∃top ms,L=[top]/\ah0 s.dv.nw s.dv.n s.cR top ms L ats (j0 g L.n)/\PW (·∈ats) s s/\lI s.dv.nw:=by
  intro g s L ats j l u v;have e:j0 g 1=[1]:=by cases g<;>rfl
  match L,u with
  | [top],_=>
   simp only[length_singleton,e,sum_singleton] at v;have:ats=[]:=yj cN;subst this;exact⟨top,[],ae,⟨.nil _,by simp[e],by simp,λm k q n=>.inl jH,l top nB⟩,.refl _,j⟩
 intro f;induction f with|zero=>intro s L ats _ _ j _ l u v p _;obtain⟨top,ms,t,d⟩:=o 0 s L ats j l cN p;exact⟨λ_=>⟨top,ms,t,d⟩,λ_ _ _ _=>ae⟩|succ f ih=>intro s L ats B O j M l u v p I;by_cases J:1<L.n;(have e:jk (f+1) (s,(L,0)) ats=jk f (eV s L ats) (ats.drop (eV s L ats).2.1.n):=by rw[jk];grind);(have z:j0 (f+1) L.n=L.n::j0 f ((L.n+7)/8):=by rw[j0,c8 J]);(have hh:=tI f ((L.n+7)/8);rw[z,sum_cons] at p;have pn:fA L.n 8=(L.n+7)/8:=by rfl);have y:ats=ats.take ((L.n+7)/8)++ats.drop ((L.n+7)/8):=(Ac _ _).symm;have i:=I;rw[y,yp] at i;have ns:=Yu B (post:=ats.drop ((L.n+7)/8)) (by grind) i.1 l;rw[<-y] at ns;rw[e];have ZP:=VO s L ats;generalize eV s L ats=N at*;obtain⟨V,A,c⟩:=N;simp only at ns ZP|-;generalize hk1:(L.n+7)/8=K at*;have Y:K<=8^f:=cN;by_cases hc:c=0;(subst hc;obtain⟨x,b,U,X,lt⟩:=ns.1 ae;have T:A.n=K:=by grind[vu]);have w:=ahZ b j X;(have H:A.map Prod.fst=ats.take K:=by grind[QC]);obtain⟨C,Q⟩:=ih V A (ats.drop K) (by rw[b.st];exact B) (by rw[b.st];exact O) w (by rw[b.wr.n];exact M) (by grind[IN]) cN cN jH i.2.1;rw[T] at C|-;refine⟨λh=>?_,λE F G Z=>Q (b.wr.al E) (λa r=>?_) (by rw[b.st];exact G) ?_⟩;obtain⟨top,ms,t,d,D,R⟩:=C h;rw[b.wr.n,b.st] at d;refine⟨top,ms++[L],t,⟨d.path.snoc (U.congr λq n=>D.nw _ λh=>?_),?_,?_,?_,d.parts⟩,(b.mono λa r=>lP r).trans (D.mono (λa h=>mR h)),R⟩;grind;rw[z,reverse_cons,<-d.len];simp;have:=d.perm;grind;intro m k q n;rw[<-uG,gH] at k;rcases k with k|k;rcases d.st m k q n with h|h;rw[x] at h;obtain⟨a,_,rfl⟩:=gT.1 h;exact .inr ⟨ae,λe=>by have:=gQ (·.2.1) e;grind[cY]⟩;grind;grind;rw[ZP,b.wr.n];grind;intro q n;rw[x] at n;obtain⟨a,r,rfl⟩:=gT.1 n;have:=F a (lP r);unfold im;grind;grind[IP];(obtain⟨top,ms,t,d⟩:=o (f+1) s L ats j l cN p;have e:jk (f+1) (s,(L,0)) ats=(s,(L,0)):=by simp_all[jk]);grind
theorem QE:∀(d:cV)(st:Nat)(b:cV)(D:Nat->cV)(s:Pl),1<=st->s.dv.df=cy->(∀a∈d,a<s.dv.n/\s.dv.nw a=D a)->∃t,(vu D st d).foldl jW (s,(b,0))=(t,(b++d.flatMap D,0))/\PW (λ_=>False) s t/\t.mp=s.mp/\t.dv.df=cy
 | [],st,b,D,s,_,hd,_=>⟨s,by simp[vu],.refl _,ae,hd⟩
 |a::d,st,b,D,s,h0,hd,h=>by
  have i:=h a nB;have ne:((a,st,kZ (D a)):cQ)≠cY:=λe=>by simp_all[cY]
  have g:=Ys (q:=(a,st,kZ (D a))) hd (.inr ⟨i.1,by rw[i.2]⟩);have f:=NI (A:=λ_=>False) s (a,st,kZ (D a));have k:(gz s (a,st,kZ (D a))).1.dv.df=cy:=by grind[gz,iq,fm]
  have e:jW (s,(b,0)) (a,st,kZ (D a))=((gz s (a,st,kZ (D a))).1,(b++D a,0)):=by
   simp_all[jW,D5]
  obtain⟨t,m,l,j⟩:=QE d st (b++D a) D (gz s (a,st,kZ (D a))).1 h0 k λc hc=>by
   rw[f.1.wr.n,f.1.nn];grind
  refine⟨t,?_,f.1.trans l,j.1.trans f.2,j.2⟩
  grind[vu]
theorem QF:∀(k:Nat)(bs:cV),bs.n<=128*k->128*k<bs.n+128->(oK 128 k bs).flatMap pD=bs++replicate (128*k-bs.n) 0
 |0,bs,h,_=>by
  grind[oK]
 |k+1,bs,h1,h2=>by
  rw[oK,Bu];by_cases h:k=0
  . subst h;have e:bs.take 128=bs:=nV cN;rw[oK,e,flatMap_nil,wV];rfl
  . have:=QF k (bs.drop 128) (by rw[uf];omega) (by rw[uf];omega);rw[this,Jk bp,<-xJ,Ac,uf];congr 2;omega
structure Ea(D:Nat->cV)(n st:Nat)(cO:cQ)(bs:cV)(all:List cQ)(ats:cV):Prop where
 load:∀u:Pl,u.dv.df=cy->u.dv.n=n->(∀a∈ats,u.dv.nw a=D a)->∃t,eP u cO (bs.n:Nat)=(t,(bs,all,0))/\PW (λ_=>False) u t/\t.mp=u.mp/\t.dv.df=cy
 perm:(all.map Prod.fst).Perm ats
 st:∀q∈all,q.2.1=st/\q≠cY
 top:cO∈all
 parts:dD cO
def afa:∀k:Fin 513,j0 20 k=j0 10 k:=by decide+kernel
theorem Path.congr{n:Nat}{l:List cQ}(p:Path D n h ms l)(e:∀m∈h::ms,m≠l->∀q∈m,E q.1=D q.1)(c:∀q∈l,E q.1=D q.1):Path E n h ms l:=by induction p with|nil h=>exact .nil h|@cons h m l ms a b ih=>refine .cons (a.congr λq f=>?_) (ih (λx d=>e x (kT _ d)) c);grind
theorem ER(hs:1<=s.cR)(hu:gU s.cR)(hd:lI s.dv.nw)(hn:s.dv.n<=1024)(hb:∀x∈bs,x<256)(nd:ats.Nodup):
 ((fG s bs ats).2.2=0->1<=bs.n/\PW (·∈ats) s (fG s bs ats).1/\lI (fG s bs ats).1.dv.nw/\∃all,Ea (fG s bs ats).1.dv.nw s.dv.n s.cR (fG s bs ats).2.1 bs all ats)/\(fG s bs ats).1.mp=s.mp/\
 (s.dv.al->(∀a∈ats,s.mp a=2/\4<=a/\a<s.dv.n)->s.cR<=281474976710655->1<=bs.n->bs.n<=65535->ats.n=jT (bs.n:Nat)->(fG s bs ats).2.2=0):=by
 have g:(fG s bs ats).1.mp=s.mp:=by
  have lm:∀(f:Nat)(a:Pl×(List cQ×Int))(l:cV),(jk f a l).1.mp=a.1.mp:=by intro f;induction f<;>grind[jk,VO]
  unfold fG;split;rfl;simp only;split<;>exact(lm _ _ _).trans (Lr (GF ats) _ _)
 refine⟨?_,g,?_⟩<;>clear g
 all_goals
  by_cases hc:jT (bs.n:Nat)=0∨ats.n≠jT (bs.n:Nat)
 simp_all[fG];rotate_left;(intro _ _ _ h1 h2 h3;exfalso;have h4:=tI 10 ((bs.n+127)/128);have:jT (bs.n:Nat)=(j0 10 ((bs.n+127)/128)).sum:=by unfold jT kQ;grind);omega;rotate_left
 all_goals
  have I:1<=bs.n/\bs.n<=65535:=by
   apply Ae;intro h;apply hc;left;unfold jT kQ;grind
  have b3:jT (bs.n:Nat)=(j0 10 ((bs.n+127)/128)).sum:=by
   unfold jT kQ;grind
  have a9:ats.n=(j0 10 ((bs.n+127)/128)).sum:=cN;have ek:fA bs.n 128=(bs.n+127)/128:=by rfl
  have b2:=tI 10 ((bs.n+127)/128);have H:j0 20 ((bs.n+127)/128)=j0 10 ((bs.n+127)/128):=afa ⟨(bs.n+127)/128,cN⟩;have J:kQ (bs.n:Nat)=j0 10 ((bs.n+127)/128):=by unfold kQ;grind
  generalize hK:(bs.n+127)/128=K at*;have ea:ats=ats.take K++ats.drop K:=(Ac _ _).symm;have hz:(ats.take K).n=K:=by grind
  have i:=nd;rw[ea,yp] at i;have et:gF s bs ats=(oK 128 K bs).foldl (ig ats) (s,([],0)):=by
   unfold gF;rw[<-JE,ek];rfl
  have y:=NR (ee:=ats) (oK 128 K bs) (ats.take K) [] (ats.drop K) s [] ae (by rw[hz,uF]) ea i.1;rw[<-et] at y;have cl:∀p∈oK 128 K bs,p.n<=128/\∀x∈p,x<256:=by
   have:∀(k:Nat)(l:cV),(∀x∈l,x<256)->∀p∈oK 128 k l,p.n<=128/\∀x∈p,x<256:=by
    intro k
    induction k with
    |zero=>grind[oK]
    |succ k ih=>
     intro l I p z;rcases iX.1 z with rfl|z
     . grind
     . exact ih _ (λx hx=>I x (mR hx)) p z
   exact this K bs hb
  unfold fG;rw[cX hc];generalize gF s bs ats=T at*;obtain⟨d,L,c⟩:=T;simp only at y|-;have lp:c=0->1<=d.cR/\gU d.cR/\lI d.dv.nw/\d.dv.n<=1024/\(∀q∈L,dD q)/\L=vu d.dv.nw s.cR (ats.take K)/\L.n=K/\(ats.drop K).n+L.n=(j0 20 L.n).sum/\d.cR=s.cR:=λr=>by
   obtain⟨k1,n,k3,k4⟩:=y.1 r;have G:L=vu d.dv.nw s.cR (ats.take K):=by grind[SO,uF]
   have lL:L.n=K:=by grind[vu]
   have Q:lI d.dv.nw:=ahZ n hd λa v=>by
    obtain⟨j,hj,rfl⟩:=yk v
    grind[G9]
   refine⟨by rw[n.st];exact hs,by rw[n.st];exact hu,Q,by rw[n.wr.n];exact hn,?_,G,lL,?_,n.st⟩
   . grind[IN]
   grind
 by_cases r:c=0;subst r;obtain⟨U,V,Y,Z,p5,p6,p7,p8,p9⟩:=lp ae;obtain⟨k1,n,k3,k4⟩:=y.1 ae;have E:=(QD 20 d L (ats.drop K) U V Y Z p5 cN cN p8 i.2.1).1;rw[p7] at E|-;generalize jk 20 (d,(L,0)) (ats.drop K)=R at*;obtain⟨s2,X,c2⟩:=R;simp only at E|-;split;grind;(next h=>(intro _;obtain⟨top,ms,G,B,q1,q2⟩:=E cN;subst G;rw[p9,n.wr.n,H] at B;have o:∀a∈ats.take K,a∈ats:=λa h=>lP h;have D:∀a∈ats.drop K,a∈ats:=λa h=>mR h;have b1:L.map Prod.fst=ats.take K:=by grind[QC]);(have F:∀q∈L,q.2.1=s.cR/\q≠cY:=λq b=>by rw[p6] at b;obtain⟨a,_,rfl⟩:=gT.1 b;exact⟨ae,λe=>by have:=gQ (·.2.1) e;grind[cY]⟩);(have st:∀m∈ [top]::ms,∀q∈m,q.2.1=s.cR/\q≠cY:=λm g q b=>(B.st m g q b).elim (F q) id;have C:(([top]::ms).flatten.map Prod.fst).Perm ats:=by refine B.perm.trans ?_;grind);have N:∀m∈ [top]::ms,∀q∈m,q.1∈ats:=λm g q b=>C.mem_iff.1 (gT.2 ⟨q,List.mem_flatten.2 ⟨m,g,b⟩,ae⟩);refine⟨I.1,(n.mono o).trans (q1.mono D),q2,([top]::ms).flatten,⟨λu M A w=>?_,C,λq b=>?_,by simp,B.parts⟩⟩;(have a7:Path u.dv.nw u.dv.n [top] ms L:=by rw[A];exact B.path.congr (λm g _ q b=>w _ (N m g q b)) λq b=>w _ (o _ jH));(obtain⟨t,j1,O,j3,j4⟩:=QB ms [top] L [top] u M a7 λm g q b=>(st m (kT _ g) q b).2;obtain⟨t2,j5,j6,j7⟩:=QE (ats.take K) s.cR [] d.dv.nw t hs j4 λa v=>by rw[O.wr.n,O.nn,A,w a (o a v),q1.nw a λh=>i.2.2 a v a h ae];grind);(have dn:qT (bs.n:Nat)=ms.map length:=by unfold qT;rw[J,<-tail_reverse,<-B.len];rfl);(have a8:(ats.take K).flatMap d.dv.nw=bs++replicate (128*K-bs.n) 0:=by rw[<-QF K bs cN cN,flatMap_def,flatMap_def];congr 1;apply ext_getElem;grind[uF];grind);(refine⟨t2,?_,O.trans j6,j7.1.trans j3,j7.2⟩;have tx:pG t L=(t2,(bs++replicate (128*K-bs.n) 0,0)):=by grind[pG]);(have ld:fc t L (bs.n:Int).m=(t2,(bs,0)):=by unfold fc;rw[tx];simp);(show eP u top (bs.n:Nat)=_;unfold eP;rw[cX jH];simp only[dn,j1,ne_eq,yu,mS,ld,flatten_cons]);obtain⟨m,g,b⟩:=List.mem_flatten.1 b;grind);rw[IP r];grind;(intro a1 a2 a3 a4 a5 a6;have c0:c=0:=y.2 a1 (λa v=>by grind) λp z=>(cl p z).1;subst c0;obtain⟨U,V,Y,Z,p5,p6,p7,p8,p9⟩:=lp ae;obtain⟨k1,n,k3,k4⟩:=y.1 ae;have ZP:d.mp=s.mp:=by grind[Lr,GF]);(have E:=(QD 20 d L (ats.drop K) U V Y Z p5 cN cN p8 i.2.1).2 (n.wr.al a1) (λa v=>by rw[ZP,n.wr.n];grind) cN λq b=>by rw[p6] at b;obtain⟨a,v,rfl⟩:=gT.1 b;have:=a2 a (lP v);unfold im;grind);grind
theorem JF(m:Nat->Nat):∀k,k<=fI m->(iJ m k).1.n=k/\(iJ m k).1.Nodup/\(∀a∈(iJ m k).1,m a=1)/\∀a,(a∈(iJ m k).1->(iJ m k).2 a=2)/\(a∉(iJ m k).1->(iJ m k).2 a=m a):=by
 intro k
 induction k with
 |zero=>intro _;exact⟨ae,nodup_nil,λa h=>absurd h jL,λa=>⟨λh=>absurd h jL,λ_=>ae⟩⟩
 |succ k ih=>
  intro h;obtain⟨g,j,l,c⟩:=ih cN;have hc:=(zJ m (k:=k) cN).1;obtain⟨i,b⟩:=Gb (st:=(iJ m k).2) cN;have d:=(qu b).2.1;have f:i∉(iJ m k).1:=λe=>by grind
  rw[(c i).2 f] at d;rw[BP m b];grind[kE]
def Bq(c:cQ)(a:Nat)(d:cQ)(b:Nat):cV:=(iT c++qO 4 a)++(iT d++qO 4 b)
theorem Yv{a b:cQ}{c d:Nat}{t:cV}(h:At a c b d=cu t):im a=cx/\im b=cx/\t=Bq a c b d:=by grind[At,qi,im,Bq]
theorem ZX(c:cQ)(a:Nat)(d:cQ)(b:Nat):(Bq c a d b).n=40:=by rfl
theorem ai1(d:cQ)(b:Nat)(e:cQ)(c:Nat):∀x∈Bq d b e c,x<256:=by unfold Bq;intro x a;simp only[gH] at a;rcases a with(h|h)|h|h;exact pW _ x h;exact yA _ _ x h;exact pW _ x h;exact yA _ _ x h
theorem ai2{l:List kV}{b:List Int}(h:pz l=cu b):∀x∈rn b,x<256:=by
 unfold pz at h;split at h;next hc=>cases h;intro x c;unfold rn at c;obtain⟨y,a,rfl⟩:=gT.1 c;obtain⟨m,d,a⟩:=De.1 a;have:=rJ.1 hc.2 m d;unfold Wn kt at this;unfold tu at a;grind
 cases h
theorem IQ{t:Int}{l:List (Int×Int)}{b:cV}(h:jB t l=cu b):b.n=fZ t/\∀x∈b,x<256:=by grind[jB,gm,rn,yA,ai2]
theorem Yw{d:Dv}{i:Int}{s:cV}(h:(gw d i s).2=0):(gw d i s).1.df=cy:=by
 have k:(iN (fm d)).2=cx->(iN (fm d)).1.df=cy:=by grind[iN]
 unfold gw at*;grind
theorem NS{i:Int}{b:cV}(h:(eY s i b).2.2=0):(eY s i b).1.dv.df=cy:=by
 unfold eY at*;split at h;cases h
 next h1=>
 split at h;next h2=>rw[cX h1,c8 h2];grind[kx,Yw]
 cases h
structure Laid(D:Nat->cV)(n st:Nat)(q:cQ)(text:cV)(tk:List (Int×Int))(dI:List cQ)(ats:cV):Prop where
 tab:∃p1 p2 l m sp ats1 ats2,jB (n:Nat) tk=cu sp/\im p1=cx/\im p2=cx/\dD p1/\dD p2/\D q.1=pD (Bq p1 text.n p2 sp.n)/\q.2.2=kZ (D q.1)/\q.1<n/\q≠cY/\Ea D n st p1 text l ats1/\Ea D n st p2 sp m ats2/\dI=([q]++l)++m/\(∀a∈ats1,a∈ats)/\(∀a∈ats2,a∈ats)/\q.1∈ats
 perm:(dI.map Prod.fst).Perm ats
 st:∀q∈dI,q.2.1=st/\q≠cY
def Ea.congr{n st:Nat}{all:List cQ}(h:Ea D n st cO bs all ats)(e:∀a∈ats,E a=D a):Ea E n st cO bs all ats:=
 ⟨λu c d f=>h.load u c d λa b=>(f a b).trans (e a b),h.perm,h.st,h.top,h.parts⟩
theorem NT(N:1<=s.cR)(O:gU s.cR)(hd:lI s.dv.nw)(M:s.dv.n<=1024)(hb:∀x∈text,x<256)(nd:ats.Nodup)(hl:ats.n=1+jT (text.n:Nat)+jT (fZ (s.dv.n:Nat):Nat))(hr:∀a∈ats,a<1024):
 ((gO s text ats).2.2.2=0->Laid (gO s text ats).1.dv.nw s.dv.n s.cR (gO s text ats).2.1 text (kF s.mp 2) (gO s text ats).2.2.1 ats/\PW (·∈ats) s (gO s text ats).1/\(gO s text ats).1.mp=s.mp):=by
 intro h;have ea:ats.n-1<ats.n:=cN;have split:ats=ats.take (jT (text.n:Nat))++((ats.take (ats.n-1)).drop (jT (text.n:Nat))++[ats.getD (ats.n-1) 0]):=by
  have h1:ats.take (jT (text.n:Nat))=(ats.take (ats.n-1)).take (jT (text.n:Nat)):=by grind
  grind[append_assoc,take_append_drop,drop_eq_getElem_cons]
 have d:=nd;rw[split,yp,yp] at d;have D:=ER N O hd M hb d.1;unfold gO mw2 at h|-;generalize fG s text (ats.take (jT (text.n:Nat)))=X at*;obtain⟨J,n,U⟩:=X;simp only at h D|-;by_cases e1:U=0;case neg=>grind
 rw[cX cN] at h|-;obtain⟨w1,f,k2,l,v⟩:=D.1 e1;have ZP:J.mp=s.mp:=D.2.1;rw[f.wr.n,ZP] at h|-;split at h;simp at h
 next sp hsp=>
 have E:=ER (s:=J) (by rw[f.st];exact N) (by rw[f.st];exact O) k2 (by rw[f.wr.n];exact M) (IQ hsp).2 d.2.1.1;unfold mw3 at h|-;generalize fG J sp ((ats.take (ats.n-1)).drop (jT (text.n:Nat)))=Y at*;obtain⟨s2,o,V⟩:=Y;simp only at h E|-;by_cases e2:V=0;case neg=>grind
 rw[cX cN] at h|-;obtain⟨w2,u,k4,m,p⟩:=E.1 e2;rw[f.wr.n,f.st] at p;split at h;simp at h
 next t ht=>
 obtain⟨r1,r2,rfl⟩:=Yv ht;generalize hc:ats.getD (ats.n-1) 0=c at*;have w:=Bp s2 c (Bq n text.n o sp.n);unfold mw4 at h|-;have K:=NS (s:=s2) (i:=(c:Int)) (b:=Bq n text.n o sp.n);generalize eY s2 c (Bq n text.n o sp.n)=Z at*;obtain⟨g,q,c3⟩:=Z;simp only at h w K|-;by_cases L:c3=0;case neg=>grind
 rw[cX cN] at h|-;obtain⟨_,lt,eq,nw⟩:=w.2.2.1 L;have A:PW (λa=>a=c) s2 g:=w.1.mono λa h=>h.1;have B:Ea g.dv.nw s.dv.n s.cR n text l (ats.take (jT (text.n:Nat))):=v.congr λa y=>(A.nw a λe=>(λh=>d.2.2 c h c (FT _ nB) ae) (e▸y)).trans (u.nw a ((λa h h'=>d.2.2 a h a (LF _ h') ae) a y));have C:Ea g.dv.nw s.dv.n s.cR o sp m ((ats.take (ats.n-1)).drop (jT (text.n:Nat))):=p.congr λa y=>A.nw a λe=>(λh=>d.2.1.2.2 c h c nB ae) (e▸y);have R:g.dv.n=s.dv.n:=(A.wr.n).trans ((u.wr.n).trans f.wr.n);have m3:g.mp=s.mp:=(w.2.1.trans E.2.1).trans ZP;obtain⟨t1,j1,z,j3⟩:=B.load g (K L) R λ_ _=>ae;obtain⟨t2,j4,Q,j6⟩:=C.load t1 j3.2 ((z.wr.n).trans R) λa _=>by rw[z.nn]
 rw[j1];unfold mw5;simp only[ne_eq,yu,mS,j4];have wn:t2.dv.nw=g.dv.nw:=(Q.nn).trans z.nn;have G:q=(c,s.cR,kZ (pD (Bq n text.n o sp.n))):=by rw[eq,u.st,f.st]
 have r:q.1=c:=by rw[G]
 have I:q≠cY:=λe=>by rw[e] at G;have:=gQ (·.2.1) G;grind[cY]
 have F:c∈ats:=by grind
 have j:∀a∈ats.take (jT (text.n:Nat)),a∈ats:=λa h=>lP h;have k:∀a∈(ats.take (ats.n-1)).drop (jT (text.n:Nat)),a∈ats:=λa h=>lP (mR h);have dq:g.dv.nw c=pD (Bq n text.n o sp.n):=by rw[nw];simp[iM]
 refine⟨⟨⟨n,o,l,m,sp,_,_,hsp,r1,r2,?_,?_,?_,?_,?_,I,?_,?_,ae,j,k,by grind⟩,?_,?_⟩,?_,?_⟩;exact v.parts;exact p.parts;grind;grind;rw[r,<-f.wr.n,<-u.wr.n];exact lt;grind;grind;rw[split];simp only[nM,yh,map_nil,r];rw[xJ];refine List.perm_append_comm.trans ?_;rw[<-xJ];exact(Perm.append v.perm p.perm).append_right [c];intro T H;rcases gH.1 H with h|h;rcases gH.1 h with h|h;grind;exact v.st T h;exact p.st T h;exact((((f.mono j).trans (u.mono k)).trans (A.mono λa h=>h▸F)).trans (z.mono λ_ h=>h.elim)).trans (Q.mono λ_ h=>h.elim);grind
theorem GH(d:Dv):(fH d).1.n=d.n/\(fH d).1.nw=d.nw/\(d.al->(fH d).2=0/\(fH d).1.al):=by obtain⟨o,f,k,e,h⟩:=wx d;unfold fH;split;rw[e];exact⟨ae,ae,λg=>⟨ae,(h g).2⟩⟩;grind
theorem Eb(d:Dv)(u:qZ):(dP d u).1.n=d.n/\((dP d u).2=0->kC u=cx/\(dP d u).1.nw=iM d.nw (u.kJ%4) (oX u))/\(d.al->kC u=cx->4<=d.n->(dP d u).2=0/\(dP d u).1.al):=by
 unfold dP kD;by_cases h:kC u=cx;simp only[h,oQ];have b:=GH d;have w:=NH (A:=λ_=>True) (fH d).1 ((u.kJ%4:Nat):Int) (oX u) λ_ _=>iC;have e:=GH (gw (fH d).1 ((u.kJ%4:Nat):Int) (oX u)).1;split;grind;split;(next e1 e2=>exact⟨w.1.n.trans b.1,λf=>absurd f e2,λa _ c=>absurd (w.2.2 (b.2.2 a).2 cN cN) e2⟩);next e1 e2=>refine⟨e.1.trans (w.1.n.trans b.1),λ_=>⟨iC,?_⟩,λa _ c=>e.2.2 (w.1.al (b.2.2 a).2)⟩;grind
 simp[h]
theorem NU(m:Nat->Nat)(a:Nat):mV m a=2↔m a=2:=by grind[mV]
def afb{m b:Nat->Nat}(h:∀a,b a=2↔m a=2):kF b 2=kF m 2:=Xy λa _=>h a
structure C'(x y:GT):Prop where
 ql:Good y
 b:y.b=x.b
 n:y.s.dv.n=x.s.dv.n
 laid:∃text ats,jh x.b=cu text/\Laid y.s.dv.nw x.s.dv.n x.s.cR y.ub.iG text (kF y.s.mp 2) y.dI ats/\(∀a∈ats,4<=a/\a<x.s.dv.n)
 ub:y.ub.kJ=iR x.ub.kJ/\y.ub.cR=x.s.cR/\y.ub.len=40/\y.ub.gx=x.s.dv.n/\kC y.ub=cx
 slot:y.s.dv.nw (y.ub.kJ%4)=oX y.ub
 ring:∀a,a<4->a≠y.ub.kJ%4->y.s.dv.nw a=x.s.dv.nw a
 cR:y.s.cR=iR x.s.cR/\y.s.base=x.s.cR
 dI:∀text,jh x.b=cu text->y.dI.n=nE text.n x.s.dv.n
 free:∀a,y.s.mp a≠3
 two:∀a,(y.s.mp a=2↔(x.s.mp a=2/\¬∃q∈x.dI,q.1=a)∨∃q∈y.dI,q.1=a)/\((∃q∈y.dI,q.1=a)->x.s.mp a≠2∨∃q∈x.dI,q.1=a)
theorem KH{x:GT}(G:Good x)(Y:lI x.s.dv.nw)(F:gU x.s.cR)(Q:x.s.cR<=281474976710655)(R:∀text,jh x.b=cu text->∀c∈text,c<256)(b:(gg x.s x.b x.dI).2.2.2=0){dv:Dv}(r:dv.n=(gg x.s x.b x.dI).1.dv.n)(t:dv.nw=iM (gg x.s x.b x.dI).1.dv.nw ((qk x (gg x.s x.b x.dI)).kJ%4) (oX (qk x (gg x.s x.b x.dI))))(v:kC (qk x (gg x.s x.b x.dI))=cx):
 C' x {x with dI:=(gg x.s x.b x.dI).2.2.1,ub:=qk x (gg x.s x.b x.dI),s:=oU {(gg x.s x.b x.dI).1 with dv:=dv}}:=by
 unfold gg at*;cases H:jh x.b with
 |none=>grind
 |some text=>
  rw[H] at b r t v;simp only at b r t v|-;have I:∀q∈x.dI,q.1<1024:=λq g=>by
   have:=(G.hd q g).1;have:=(G.map q.1).2.1 cN;have:=G.n;omega
  have F:=rf x.dI x.s I;by_cases hc:fI (dM x.s x.dI).mp<nE text.n (dM x.s x.dI).dv.n
  . grind
  rw[cX hc] at b r t v|-;generalize hs1:dM x.s x.dI=s1 at*;obtain⟨z,d2,I,Z⟩:=F;rw[d2] at hc b r t v|-;have J:nE text.n x.s.dv.n<=fI s1.mp:=cN;have F:zQ s1.mp (nE text.n x.s.dv.n:Nat)=cu (iJ s1.mp (nE text.n x.s.dv.n)):=by simp_all[zQ]
  have F:xk s1.mp (nE text.n x.s.dv.n:Nat)=(iJ s1.mp (nE text.n x.s.dv.n)).1:=by grind[xk]
  have I:AL s1.mp (nE text.n x.s.dv.n:Nat)=(iJ s1.mp (nE text.n x.s.dv.n)).2:=by grind[AL]
  rw[F,I] at b r t v|-;obtain⟨T,U,F,V⟩:=JF s1.mp _ J;generalize iJ s1.mp (nE text.n x.s.dv.n)=MN at*;obtain⟨ats,n⟩:=MN;simp only at T U F V b r t v|-;have I:=G.n;have O:∀a∈ats,4<=a/\a<x.s.dv.n:=λa j=>(G.map a).2.1 (by have:=(z.zero a).2;grind);have J:=NT (s:=⟨x.s.dv,n,s1.cR,s1.base⟩) (by show 1<=s1.cR;rw[Z];exact G.VL) jH Y I.2 (text:=text) (R text H) U (by rw[T];rfl) (λa j=>by grind);generalize gO ⟨x.s.dv,n,s1.cR,s1.base⟩ text ats=W at*;obtain⟨s2,q,dI,c⟩:=W;simp only at b r t v J|-;obtain⟨L,I,d⟩:=J b;have u3:=t;have E:s2.dv.n=x.s.dv.n:=I.wr.n;have o:s2.cR=x.s.cR:=I.st.trans Z;have L:Laid s2.dv.nw x.s.dv.n x.s.cR q text (kF n 2) dI ats:=by grind
  have d:s2.mp=n:=d;have J:(qk x (s2,(q,(dI,c)))).kJ=iR x.ub.kJ/\(qk x (s2,(q,(dI,c)))).cR=x.s.cR/\(qk x (s2,(q,(dI,c)))).iG=q/\(qk x (s2,(q,(dI,c)))).len=40/\(qk x (s2,(q,(dI,c)))).gx=x.s.dv.n:=⟨ae,o,ae,ae,E⟩;generalize qk x (s2,(q,(dI,c)))=ub at*;have two:∀a,mV n a=2↔(x.s.mp a=2/\∀q∈x.dI,q≠cY->q.1≠a)∨a∈ats:=λa=>by
   rw[NU];by_cases e:a∈ats
   . grind
   . rw[(V a).2 e,z.two];grind
  have i:∀a,4<=a->dv.nw a=s2.dv.nw a:=λa j=>by rw[u3];unfold iM;grind
  have u:∀a∈ats,x.s.mp a≠2∨∃q∈x.dI,q.1=a:=λa j=>by
   have w:=F a j;rcases z.one a w with h|⟨_,q,g,e,_⟩<;>grind
  have C:∀a∈ats,¬Re (pt x.s.dv.nw) (·∈x.b.cU) a:=λa j h=>by
   rcases u a j with w|⟨q,g,e⟩
   . exact w (G.tk a h)
   . exact(G.hd q g).2.1 (e▸h)
  have D:∀s∈x.b.cU,∀k,pt x.s.dv.nw s.cO k≠cY->dv.nw (pt x.s.dv.nw s.cO k).1=x.s.dv.nw (pt x.s.dv.nw s.cO k).1:=λs y k R=>by
   have F:Re (pt x.s.dv.nw) (·∈x.b.cU) (pt x.s.dv.nw s.cO k).1:=⟨s,k,y,R,ae⟩;have:=G.tk _ F;rw[i _ ((G.map _).2.1 cN).1];exact I.nw _ λj=>C _ j F
  have e:∀s∈x.b.cU,∀k,pt dv.nw s.cO k=pt x.s.dv.nw s.cO k:=λs y=>((G.rd s y).congr (D s y)).2;have N:=λa=>Re.GC (M:=(·∈x.b.cU)) e a;have K:dv.n=x.s.dv.n:=r.trans E;have B:∀p,p∈dI->p.1∈ats:=λp f=>L.perm.mem_iff.1 (gT.2 ⟨p,f,ae⟩);have V:iR x.s.cR=x.s.cR+1:=qU Q;have F:kF (mV n) 2=kF n 2:=afb λa=>NU n a;have F:Laid dv.nw x.s.dv.n x.s.cR q text (kF n 2) dI ats:=by
   obtain⟨⟨p1,p2,l,m,sp,F,R,Z,b2,b3,b4,b5,Y,Y,b8,b9,c1,c2,c3,X,Y,c6⟩,k2,k3⟩:=L;exact⟨⟨p1,p2,l,m,sp,F,R,Z,b2,b3,b4,b5,by grind,by grind,b8,b9,c1.congr λa h=>i a (O _ (X a h)).1,c2.congr λa h=>i a (O _ (Y a h)).1,c3,X,Y,c6⟩,k2,k3⟩
  have R:Good ⟨x.b,dI,ub,oU {s2 with dv:=dv}⟩:=by
   refine⟨G.inc,G.qD,G.zt,?_,λs y=>?_,λa=>?_,?_,λa h=>?_,λa h=>?_,λp f=>?_,?_,?_,G.nx⟩
   . show TI (pt dv.nw) (iR s2.cR) _;rw[o,V];exact(G.ti.GC e).later
   . show Rd dv.nw dv.n s.cO;rw[K];exact((G.rd s y).congr (D s y)).1
   . show mV s2.mp a<=3/\(mV s2.mp a≠0↔4<=a/\a<dv.n);rw[K,d];have w:=G.map a;have F:=z.zero a;have V:=z.le (λa=>(G.map a).1) a
     grind[mV]
   . grind[oU]
   . have h:=(N a).1 h;show mV s2.mp a=2;rw[d,two];exact .inl ⟨G.tk a h,λp f _ e=>(G.hd p f).2.1 (e▸h)⟩
   . have h:mV s2.mp a=2:=h;rw[d,two] at h;rcases h with⟨w,F⟩|h
     . refine .inl ((N a).2 ((G.ac a w).resolve_right ?_));rintro⟨p,f,e⟩;exact F p f (G.hd p f).2.2.2 e
     . obtain⟨p,f,e⟩:=gT.1 (L.perm.mem_iff.2 h)
       grind
   . have j:=B p f;refine⟨by simp_all[oU],λh=>C _ j ((N _).1 h),?_,(L.st p f).2⟩;show p.2.1<=s2.cR;rw[(L.st p f).1,o];omega
   . exact L.perm.nodup_iff.2 U
   . show s2.cR<iR s2.cR;grind
  refine⟨R,ae,K,⟨text,ats,H,?_,O⟩,⟨J.1,J.2.1,J.2.2.2.1,J.2.2.2.2,v⟩,?_,λa w F=>?_,⟨by grind[oU],o⟩,λJ h=>?_,λa=>?_,λa=>?_⟩
  . grind[oU]
  . simp_all[iM,oU]
  . show dv.nw a=_;rw[u3];unfold iM;rw[cX F];exact I.nw a λh=>by grind
  . rw[H] at h;cases h;show dI.n=_;rw[<-T,<-L.perm.length_eq,mQ]
  . show mV s2.mp a≠3;grind[mV]
  . have A:(∃q∈dI,q.1=a)↔a∈ats:=⟨λ⟨q,g,e⟩=>e▸B q g,λh=>by
     obtain⟨p,f,e⟩:=gT.1 (L.perm.mem_iff.2 h);grind⟩
    refine⟨?_,λh=>u a (A.1 h)⟩;show mV s2.mp a=2↔_;rw[d,two,A];refine or_congr_left (and_congr_right λ_=>⟨λh ⟨q,g,e⟩=>h q g (G.hd q g).2.2.2 e,λh q g _ e=>h ⟨q,g,e⟩⟩)
theorem Ec{x:GT}(G:Good x)(f:lI x.s.dv.nw)(g:gU x.s.cR)(d:x.s.cR<=281474976710655)(e:∀text,jh x.b=cu text->∀c∈text,c<256)(h:(iS x).2=0):C' x (iS x).1:=by unfold iS q8 at*;by_cases a:(gg x.s x.b x.dI).2.2.2≠0;grind;rw[cX a] at h|-;by_cases b:(dP (gg x.s x.b x.dI).1.dv (qk x (gg x.s x.b x.dI))).2≠0;grind;rw[cX b];grind[Eb,KH]
theorem VP{ts:List cV}{r:cV}(h:ui ts=cu r):r.n=2+(ts.map λt=>2+t.n).sum:=by
 rw[(Cf h).2.2,jv];have e:∀ts:List cV,(ts.flatMap uQ).n=(ts.map λt=>2+t.n).sum:=by intro ts;induction ts<;>grind[uQ,vw]
 grind[vw]
theorem ZY(a:ts.n<=65535)(b:∀t∈ts,t.n<=65535):∃r,ui ts=cu r:=by unfold ui;simp_all
def xG(s:du):Nat:=58+s.name.s+16*s.df.n
theorem NW{s:du}(h:fC s=cx):s.name.s<=24/\s.df.n<=4000:=by grind[fC,ff]
theorem aho(s:du):(fC s=cx->∃t,o5 s=cu t/\t.n=xG s)/\(fC s≠cx->o5 s=cw):=by
 unfold o5;constructor
 . (intro h;rw[c8 h];have a:=NW h;have b:(kY qh (pT s)++iT s.cO).n=50:=by rfl);have l2:(rS s.name).n=s.name.s:=by simp_all[rS]
   have c:=wh s.df;obtain⟨r,e⟩:=ZY (ts:=[kY qh (pT s)++iT s.cO,rS s.name,qg s.df]) eQ (by
    grind)
   grind[VP,xG]
 grind
def fg(l:List du):Nat:=12+(l.map λs=>2+xG s).sum
theorem NX:∀l:List du,((∀s∈l,fC s=cx)->∃ts,kI l=cu ts/\ts.n=l.n/\(∀t∈ts,t.n<=65535)/\(ts.map λt=>2+t.n).sum=(l.map λs=>2+xG s).sum)/\(kI l≠cw->∀s∈l,fC s=cx)
 | []=>⟨λ_=>⟨[],ae,ae,by simp,ae⟩,by simp⟩
 |s::l=>by
  have r:=aho s;have i:=NX l;constructor
  . intro h;obtain⟨t,e,g⟩:=r.1 (h s nB);obtain⟨ts,j,a,b,c⟩:=i.1 λx f=>h x (kT _ f);refine⟨t::ts,by grind[kI],by simp[a],λu d=>?_,by simp[c,g]⟩;rcases iX.1 d with rfl|d
    . grind[NW,xG]
    grind
  . intro h x f;unfold kI at h
    grind
theorem sg(b:ej):(∃t,jh b=cu t/\t.n=fg b.cU)/\(b.next<=281474976710655/\b.cU.n<=32/\(∀s∈b.cU,fC s=cx)/\fg b.cU<=65535)∨
 jh b=cw/\¬(b.next<=281474976710655/\b.cU.n<=32/\(∀s∈b.cU,fC s=cx)/\fg b.cU<=65535):=by
 unfold jh jE;by_cases h:281474976710655<b.next∨32<b.cU.n;grind;rw[cX h];have r:=NX b.cU;by_cases i:∀s∈b.cU,fC s=cx
 . obtain⟨ts,e,a,c,d⟩:=r.1 i;rw[e];obtain⟨t,g⟩:=ZY (ts:=kY [8] [b.next]::ts) sp_ (λt f=>by
    rcases iX.1 f with rfl|f
    . rw[sy (ws:=[8]) (ns:=[b.next]) ae];decide
    grind)
   (have l:=VP g;rw[yh,sum_cons,d,sy (ws:=[8]) (ns:=[b.next]) ae] at l;have l:t.n=fg b.cU:=by grind[fg,sX]);grind
 grind
theorem ab3{m n:Nat}(e:1<=m)(h:m<=n)(g:n<=65535):jT (m:Nat)<=jT (n:Nat):=by
 have c:∀(f a b:Nat),a<=b->(j0 f a).sum<=(j0 f b).sum:=by intro f;induction f with|zero=>grind[j0]|succ f ih=>intro a b h;unfold j0;by_cases d:1<a;rw[c8 d,c8 cN];have:=ih ((a+7)/8) ((b+7)/8) cN;simp;omega;grind
 unfold jT kQ;rw[cX cN,cX cN];exact c _ _ _ sp_
theorem ab4{c:ej}{n:Int}(d:0<nq b n)(g:c.next<=281474976710655)(h:c.cU.n<=32)(i:∀s∈c.cU,fC s=cx)(j:fg c.cU<=fg b.cU):0<nq c n/\nq c n<=nq b n:=by unfold nq at*;rcases sg b with⟨⟨t,e,l⟩,k⟩|⟨e,_⟩;rw[e] at d|-;rcases sg c with⟨⟨u,a,l2⟩,f⟩|⟨a,f⟩;rw[a];simp only at d|-;split;grind;unfold nE;have:=ab3 (m:=u.n) (n:=t.n) (by grind[fg]) cN cN;omega;grind;grind