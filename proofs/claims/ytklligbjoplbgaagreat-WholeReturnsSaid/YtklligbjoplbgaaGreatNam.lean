/- Part 13. No conditions. -/
import Derived.Test.YtklligbjoplbgaaGreatNal
set_option linter.all false
namespace Go.Proofs.YtklligbjoplbgaaGreat
set_option maxRecDepth 100000
set_option maxHeartbeats 64000000
open Go.RowKit Lib List Nat _root_.Go.Proofs.Tryz
variable {b:dS}{r:dS×Int}{cW jA:fh}{d:Dv}{x y:GT}{e:Int}{ats bs text:cD}{C:List (Int×Int)}{ms:List (List cy)}{ts:List cD}{h iV ps:List cy}{l ss:List cR}{i k n o top:Nat}{c:Nat×fh}{D E:Nat->cD}{m m':Nat->Nat}{A p q:Nat->Prop}{t:Pl×(cy×(List cy×Int))}{cz:cy}{f g:cy->Nat->cy}{j s v:cR}{M:cR->Prop}
section
def Bt.ne0(F:Bt n M)(h:M s):s.id≠0:=by have:=F.lt h;omega
theorem Bt.tH(F:Bt n M){p:cR}(d:M s)(b:M p)(e:p.id=s.cT):p.cW=true/\(s.cW=true->p.cA<s.cA)/\p≠s:=by obtain⟨h,a,c,f,g⟩:=F.pr d (by rw[<-e];exact F.ne0 b);obtain rfl:=F.id b a (e.trans c.symm);grind
theorem Bt.last(F:Bt n M)(d:M v)(b:∀s,M s->s.cW=true->s.cA<top):∀(k:Nat)(s:cR),top-s.cA<=k->M s->s.cW=true->s.cG=v.id->∃p,M p/\p.cW=true/\p.cG=v.id/\p.id=v.cT
 |0,s,hk,hs,hn,_=>by grind
 |k+1,s,hk,hs,hn,ho=>by
  obtain⟨c,hc,e,a⟩:=F.nxt hs hn;cases h:c.cW with
  |true=>
   have:=(F.tH hc hs e.symm).2.1 h;have:=b c hc h;exact F.last d b k c cw hc h (a.trans ho)
  |false=>
   have:=F.jA hc h;obtain rfl:=F.id hc d (this.symm.trans (a.trans ho))
   grind
theorem Bt.jk(F:Bt n M)(jA:v.cW=false)(k:M v)(h:∀t,M t->t.cW=true->t.cG≠v.id):Bt n (nX v M):=by refine⟨λd f=>F.id d.1 f.1,λd=>F.lt d.1,fun {x} d e=>?_,fun {x} d e=>?_,λd e hc j=>F.one d.1 e hc.1 j.1,λd=>F.jA d.1,λd f=>F.name d.1 f.1,fun {x} d e=>?_⟩;obtain⟨u,g,a,b⟩:=F.own d.1 e;grind[nX];obtain⟨u,g,a,b⟩:=F.nxt d.1 e;exact⟨u,⟨g,λi=>h x d.1 e (by rw[<-b,i];exact F.jA k jA)⟩,a,b⟩;obtain⟨p,l,a,b,c⟩:=F.pr d.1 e;grind[nX]
theorem Bt.cut(F:Bt n M){j':cR}(D:M s)(L:s.cW=true)(l:M j)(B:j.cT=s.id)(A:j.cG=s.cG)(hc:∀t,M t->t.cT=s.id->t=j)(e:j'.id=j.id/\j'.cW=j.cW/\j'.cA=j.cA/\j'.cT=s.cT/\j'.cG=j.cG/\j'.name=j.name):Bt n (oR j j' (nX s M)):=by
 obtain⟨q,H,K,E,z,N⟩:=e;have R:=F.tH l D B.symm;have J:dE j'=dE j:=by grind[dE]
 have ns:∀{p},M p->p.id=s.cT->p≠j:=fun {p} C e g=>by subst g;have h:=F.tH D C e;grind
 refine⟨?_,?_,?_,?_,?_,?_,?_,?_⟩;rintro x y (f|rfl) (hy|rfl) e;exact F.id f.1.1 hy.1.1 e;exact absurd (F.id f.1.1 l (e.trans q)) f.2;exact absurd (F.id hy.1.1 l (e.symm.trans q)) hy.2;rfl;rintro x (f|rfl);exact F.lt f.1.1;rw[q];exact F.lt l;(have o:∀x,M x->x.cW=true->∃v,oR j j' (nX s M) v/\v.cW=false/\v.id=x.cG:=λx f h=>by obtain⟨u,O,a,b⟩:=F.own f h;by_cases g:u=j;subst g;exact⟨j',.inr ae,H.trans a,q.trans b⟩;grind[oR,nX]);rintro x (f|rfl) h;grind[nX];grind;rintro x (f|rfl) h;obtain⟨c,i,a,b⟩:=F.nxt f.1.1 h;by_cases g:c=s;subst g;exact⟨j',.inr ae,E.trans a,z.trans (A.trans b)⟩;by_cases k:c=j;subst k;exact absurd (F.id f.1.1 D (a.symm.trans B)) f.1.2;grind[oR,nX];rw[H] at h;obtain⟨c,i,a,b⟩:=F.nxt l h;refine⟨c,.inl ⟨⟨i,λg=>?_⟩,λg=>?_⟩,a.trans q.symm,b.trans z.symm⟩;grind;subst g;exact(F.tH l l a.symm).2.2 ae;have o:∀x d,M x->x.cW=true->nX j (nX s M) d->s.cT=x.id->d.cT=x.id->j.cG=x.cG->d.cG=x.cG->False:=λx d f h m g k r w=>m.1.2 (F.one f h m.1.1 D k g w (A.symm.trans r));have Q:∀{d},nX j (nX s M) d->d.cT≠s.id:=fun {d} m e=>m.2 (hc d m.1.1 e);rintro x c d (f|rfl) h (i|rfl) (m|rfl) g k r w;exact F.one f.1.1 h i.1.1 m.1.1 g k r w;exact(o x c f.1.1 h i (E.symm.trans k) g (z.symm.trans w) r).elim;exact(o x d f.1.1 h m (E.symm.trans g) k (z.symm.trans r) w).elim;rfl;rw[q] at g k;rw[z] at r w;exact F.one l iG i.1.1 m.1.1 g k r w;grind;grind;rfl;rintro x (f|rfl) h;exact F.jA f.1.1 h;rw[z,q];exact F.jA l iG;rintro x y (f|rfl) (hy|rfl) e;exact F.name f.1.1 hy.1.1 e;rw[J] at e;exact absurd (F.name f.1.1 l e) f.2;rw[J] at e;exact absurd (F.name l hy.1.1 e).symm hy.2;rfl;(have o:∀x p,M x->x≠j->M p->p.id=x.cT->∃G,oR j j' (nX s M) G/\G.id=x.cT/\G.cW=p.cW/\G.cA=p.cA:=λx p f I C e=>by by_cases g:p=j;subst g;exact⟨j',.inr ae,q.trans e,H,K⟩;exact⟨p,.inl ⟨⟨C,λk=>I (hc x f (by rw[<-e,k]))⟩,g⟩,e,ae,ae⟩);rintro x (f|rfl) h;obtain⟨p,C,a,b,c⟩:=F.pr f.1.1 h;grind[nX];rw[E] at h|-;obtain⟨p,C,a,b,c⟩:=F.pr D h;grind
end
inductive uK(M:cR->Prop)(o:Nat):cR->List cR->Nat->Prop
 |nil (s:cR):uK M o s [] s.cT
 |cons {s t:cR} {l:List cR} {q:Nat} (h:M t) (ho:t.cG=o) (e:t.id=s.cT) (w:uK M o t l q):uK M o s (t::l) q
theorem adj{l:List cR}(h:Bu l)(id:Nat):∀(f:Nat)(c:cD)(s:cR),∃ss q,yG l id f c s.cT=(c++ss.map cR.id,q)/\uK (·∈l) id s ss q/\(ss.length=f∨(ss.length<f/\∀t∈l,t.id=q->q≠0->t.cG≠id))
 |0,c,s=>⟨[],s.cT,by simp[yG],.nil s,.inl ae⟩
 |f+1,c,s=>by
  unfold yG;split
  . next e=>exact⟨[],s.cT,by simp,.nil s,.inr ⟨by simp,λ_ _ _ j=>absurd e j⟩⟩
  . cases d:eu l s.cT with
    |none=>exact⟨[],s.cT,by simp,.nil s,.inr ⟨by simp,λt b e=>absurd e (Mg d b)⟩⟩
    |some i=>
     have a:=lq d;simp only;split
     . next e=>
       obtain⟨ss,q,m,k,n⟩:=adj h id f (c++[s.cT]) (di l i);refine⟨di l i::ss,q,by grind,.cons a.2.1 e a.2.2 k,?_⟩
       grind
     . next e=>exact⟨[],s.cT,by simp,.nil s,.inr ⟨by simp,λt b g _=>by rw[h.inj b a.2.1 (g.trans a.2.2.symm)];exact e⟩⟩
section
variable {q:Nat}
theorem uK.mem(w:uK M o s ss q):∀t∈ss,M t/\t.cG=o:=by induction w<;>grind
theorem uK.next(w:uK M o s ss q):∀t∈s::ss,t.cT=q∨∃r∈ss,r.id=t.cT:=by induction w<;>grind
theorem uK.back(w:uK M o s ss q):∀t∈ss,∃r∈s::ss,r.cT=t.id:=by induction w<;>grind
theorem uK.suffix(w:uK M o s ss q){a b:List cR}{t:cR}(e:ss=a++t::b):uK M o t b q:=by induction w generalizing a with|nil=>simp at e|@cons s r l q' h ho e' t' ih=>cases a<;>grind
theorem uK.end(w:uK M o s ss q):∃t∈s::ss,t.cT=q/\∀r∈s::ss,r=t∨∃x∈ss,x.id=r.cT:=by induction w<;>grind
theorem uK.T7(F:Bt n M)(w:uK M o s ss q)(b:M s):(∀t∈ss,t.cW=true/\(s.cW=true->t.cA<s.cA))/\∀x,M x->x.id=q->∀t∈s::ss,t.cW=true->x.cA<t.cA:=by induction w with|nil s=>exact⟨by simp,λx d e t c h=>by rw[eV.1 c] at h|-;exact(F.tH b d e).2.1 h⟩|@cons s r l q' h ho e t' ih=>have a:=F.tH b h e;grind
theorem uK.all(F:Bt n M)(w:uK M v.id v ss q)(j:M v)(i:∀t,M t->t.id=q->q≠0->t.cG≠v.id)(o:∀s,M s->s.cW=true->s.cA<top):∀(k:Nat)(t:cR),top-t.cA<=k->M t->t.cG=v.id->t∈v::ss:=by
 have Q5:∀t,M t->t.cW=false->t.cG=v.id->t∈v::ss:=λt a f d=>by rw[F.id a j ((F.jA a f).symm.trans d)];grind
 intro k;induction k with|zero=>grind|succ k ih=>intro t m a d;cases h:t.cW with|false=>grind|true=>(obtain⟨c,hc,b,l⟩:=F.nxt a h;have e:c∈v::ss:=by cases g:c.cW with|false=>grind|true=>have:=(F.tH hc a b.symm).2.1 g;grind);rcases w.next c e with h5|⟨r,hr,h5⟩;exact absurd d (i t a (b.symm.trans h5) (by rw[<-h5,b];exact F.ne0 a));rw[F.id a (w.mem r hr).1 (b.symm.trans h5.symm)];grind
theorem Bt.afn(F:Bt n M)(w:∀s,M s->s.cW=true->s.cA<top){u x:cR}(C:M v)(jA:v.cW=false)(hu:M u)(a2:u.cW=false)(Q:M x)(xs:x.cW=true){s1 r1 i:List cR}{T q2:Nat}(K:uK M v.id v s1 T)(e1:∀t,M t->t.id=T->T≠0->t.cG≠v.id)(O:x.id=T)(U:uK M u.id u (r1++x::i) q2)(e2:∀t,M t->t.id=q2->q2≠0->t.cG≠u.id)(hn:∀m∈x::i,∀t,M t->t.cW=true->t.cG=v.id->t.name≠m.name)(g:cR->Nat)(B:∀t∈x::i,g t=v.id)(q:∀t,t∉x::i->g t=t.cG):Bt n (AsP g M):=by
 have a1:x.cG=u.id:=(U.mem x dU).2;have V:=U.suffix ae;have L:∀t∈x::i,M t/\t.cG=u.id/\t.cW=true:=λt h=>by have a:=U.mem t (Ej _ h);exact⟨a.1,a.2,((U.T7 F hu).1 t (Ej _ h)).1⟩
 have P2:∀t∈x::i,∀p,M p->p.id=t.cT->p.cG=u.id->p∈i:=λt h p I e ho=>by rcases V.next t h with j|⟨r,hr,j⟩;exact absurd ho (e2 p I (e.trans j) (by rw[<-j,<-e];exact F.ne0 I));rw[F.id I (V.mem r hr).1 (e.trans j.symm)];exact hr
 have S2:∀t∈i,t.cA<x.cA:=λt h=>((V.T7 F Q).1 t h).2 xs;obtain⟨z,Y,J,Z⟩:=K.end;have A:∀t,M t->t.cG=v.id->t∈v::s1:=λt h=>K.all F C e1 w _ t (dK _) h;have nm:∀t,M t->t.cG=v.id->t∉x::i:=λt _ h j=>(λe=>e1 x Q O iG (a1.trans e)) ((L t j).2.1.symm.trans h);have R:M z/\z.cG=v.id:=by rcases ib.1 Y with rfl|h;exact⟨C,F.jA C jA⟩;exact K.mem z h
 refine⟨?_,?_,?_,?_,?_,?_,?_,?_⟩;rintro _ _ ⟨s,f,rfl⟩ ⟨t,w,rfl⟩ e;rw[F.id f w e];rintro _ ⟨s,f,rfl⟩;exact(F.lt f:);rintro _ ⟨s,f,rfl⟩ h;by_cases l:s∈x::i;exact⟨_,⟨v,C,ae⟩,jA,(B s l).symm⟩;obtain⟨y,hy,a,b⟩:=F.own f h;exact⟨_,⟨y,hy,ae⟩,a,b.trans (q s l).symm⟩;rintro _ ⟨s,f,rfl⟩ h;by_cases l:s∈x::i;rcases ib.1 l with rfl|hm2;exact⟨_,⟨z,R.1,ae⟩,J.trans O.symm,(q z (nm z R.1 R.2)).trans (R.2.trans (B s l).symm)⟩;obtain⟨c,hc,e⟩:=V.back s hm2;exact⟨_,⟨c,(L c hc).1,ae⟩,e,(B c hc).trans (B s l).symm⟩;obtain⟨c,hc,a,b⟩:=F.nxt f h;exact⟨_,⟨c,hc,ae⟩,a,(q c (λj=>l (jI _ (P2 c j s f a.symm (b.symm.trans (L c j).2.1))))).trans (b.trans (q s l).symm)⟩;rintro _ _ _ ⟨s,f,rfl⟩ h ⟨c,hc,rfl⟩ ⟨d,N,rfl⟩ D E G H;have h:s.cW=true:=h;have D:c.cT=s.id:=D;have E:d.cT=s.id:=E;have G:g c=g s:=G;have H:g d=g s:=H;by_cases l:s∈x::i;(rw[B s l] at G H;have k:∀c,M c->c.cT=s.id->g c=v.id->(s=x/\c=z)∨(s∈i/\c.cG=s.cG):=λc hc a b=>by by_cases o:c∈x::i;grind;rw[q c o] at b;rcases Z c (A c hc b) with j|⟨y,hy,j⟩;exact .inl ⟨F.id f Q (a.symm.trans ((j▸J).trans O.symm)),j⟩;have:=K.mem y hy;rw[F.id this.1 f (j.trans a)] at this;grind);(have:c=d:=by rcases k c hc D G with⟨a,b⟩|⟨a,b⟩<;>rcases k d N E H with⟨a',X⟩|⟨a',X⟩;rw[b,X];grind;grind;exact F.one f h hc N D E b X);rw[this];(rw[q s l] at G H;have k:∀c,M c->c.cT=s.id->g c=s.cG->c.cG=s.cG:=λc hc a b=>by by_cases o:c∈x::i;rw[B c o] at b;have j:=(λt h f ho=>(K.T7 F C).2 x Q O t (A t h ho) f) s f h b.symm;have h2:=(F.tH hc f a.symm).2.1 (L c o).2.2;grind;grind);have:c=d:=F.one f h hc N D E (k c hc D G) (k d N E H);rw[this];rintro _ ⟨s,f,rfl⟩ h;exact(q s ((λt h j=>by grind) s h)).trans (F.jA f h)
 . (rintro _ _ ⟨s,f,rfl⟩ ⟨t,w,rfl⟩ e;have v0:=F.ne0 C;have k:∀s t,M s->M t->s∈x::i->t∉x::i->dE {s with cG:=g s}=dE {t with cG:=g t}->False:=λs t f w j h2 e=>by unfold dE at e;grind);by_cases j:s∈x::i<;>by_cases h2:t∈x::i
   . have:s=t:=F.name f w (by
      unfold dE at e|-
      grind)
     rw[this]
   grind;grind;have:s=t:=F.name f w bR;rw[this]
 rintro _ ⟨s,f,rfl⟩ h;obtain⟨p,I,a⟩:=F.pr f h;exact⟨_,⟨p,I,ae⟩,a⟩
end
theorem T8{s:fh}(h:dV s=true){k:Nat}(a:k<s.size):s[k]!≠64:=λe=>by unfold dV at h;have:=qk.1 (Bool.and_eq_true_iff.1 h).2 k (wZ.2 a);rw[e] at this;revert this;decide
theorem Hw{s:fh}(h:dV s=true):dG s=some (s,qz):=by grind[atIdx,firstIdx,T8,xV,dG]
theorem Mh{v s:fh}(h:dV v=true)(g:dV s=true):dG (v++JG++s)=some (v,s):=by
 have f:(v++JG++s).size=v.size+1+s.size:=by simp[Pf];rfl
 have e:atIdx (v++JG++s)=v.size:=by
  unfold atIdx firstIdx;have:((range (v++JG++s).size).find? λi=>(v++JG++s)[i]! ==64)=some v.size:=by rw[find?_range_eq_some];refine⟨?_,wZ.2 cw,λk d=>?_⟩;(have b:v.size<(v++JG).size:=by grind);rw[getElem!_pos _ _ cw,ByteArray.getElem_append_left b,ByteArray.getElem_append_right (dK _)];simp;rfl;(have b:k<(v++JG).size:=by grind);have:=T8 h d;grind[ByteArray.getElem_append_left]
  rw[this]
 have c:xV (v++JG++s)=(v,s,true):=by unfold xV;rw[e,cL cw];simp only[sO];rw[ByteArray.extract_append_eq_right (a:=v++JG) iG Pf,ByteArray.append_assoc,ByteArray.extract_append_eq_left ae]
 grind[dG]
def T9{s:fh}(h:dV s=true):s≠qz:=λe=>by rw[e] at h;revert h;decide
def vG(h:qC l c=some k):k<l.length/\dE (di l k)=c:=by
 unfold qC at h;obtain⟨a,b,_⟩:=GV.1 h;have e:di l k=l[k]:=by unfold di;simp[getD,a]
 exact⟨a,by rw[e];simpa using b⟩
def Cw(h:qC l c=none){t:cR}(a:t∈l):dE t≠c:=by unfold qC at h;have:=List.findIdx?_eq_none_iff.1 h t a;simpa using this
def vH(l:List cR)(jA cW:fh)(t:cR):Prop:=if cW=qz then dE t=(0,jA) else ∃v∈l,dE v=(0,jA)/\dE t=(v.id,cW)
def qK(n:Bu l){cC:fh}(s:dG cC=some (jA,cW))(h:jB l cC=some k):k<l.length/\vH l jA cW (di l k)/\mF l cC=(some k,0):=by
 unfold jB at h;have g:∀i,i<l.length->eu l (di l i).id=some i:=λi f=>by obtain⟨j,m,o⟩:=n.vF (jO f).1;rw[m,n.at (lq m).1 f o]
 have d:∀r:Option Nat×Int,mF l cC=r->∀i,r.1=some i->i<l.length->i=k:=λr q i e p=>by rw[q,e] at h;simp only[vO] at h;rw[g i p] at h;exact ve h
 unfold mF at*;rw[s] at*;simp only at*;unfold vH;cases hc:qC l (0,jA) with
 |none=>rw[hc] at h;simp at h
 |some i=>
  have a:=vG hc;rw[hc] at d;simp only at d;split at d;next e=>obtain rfl:=d _ ae i ae a.1;exact⟨a.1,by rw[cL e];exact a.2,by simp[e]⟩
  next e=>cases c:qC l ((di l i).id,cW) with|none=>rw[hc] at h;simp only at h;rw[cM e,c] at h;simp at h|some j=>have b:=vG c;rw[c] at d;obtain rfl:=d _ ae j ae b.1;exact⟨b.1,by rw[cM e];exact⟨_,(jO a.1).1,a.2,b.2⟩,by simp only;rw[cM e,c]⟩
def A8(n:Bu l)(o:∀s t,s∈l->t∈l->dE s=dE t->s=t){cC:fh}(p:dG cC=some (jA,cW))(h:jB l cC=none){t:cR}(m:t∈l):¬vH l jA cW t:=by
 have c:∀i,i<l.length->eu l (di l i).id≠none:=λi g=>by obtain⟨j,d,f⟩:=n.vF (jO g).1;rw[d];simp
 unfold jB mF at h;rw[p] at h;simp only at h;unfold vH;cases hc:qC l (0,jA) with
 |none=>split;exact Cw hc m;rintro⟨v,k,e,_⟩;exact Cw hc k e
 |some i=>
  have a:=vG hc;rw[hc] at h;simp only at h;split;next e=>rw[cL e] at h;simp only[vO] at h;exact absurd h (c i a.1)
  next e=>rw[cM e] at h;cases b:qC l ((di l i).id,cW) with|some j=>rw[b] at h;simp only[vO] at h;exact absurd h (c j (vG b).1)|none=>rintro⟨v,k,d,f⟩;rw[o v _ k (jO a.1).1 (d.trans a.2.symm)] at f;exact Cw b m f
def Rd(D:Nat->cD)(n:Nat)(r:cy):Prop:=(∀k,k<9->GN D n (pt D r k))/\(∀k,GP D n (pt D r k))/\adb D r
structure Good(x:GT):Prop where
 inc:Bu x.b.cE
 pK:x.b.cE.length<=32
 vN:Bt x.b.next (·∈x.b.cE)
 ti:TI (pt x.s.dv.nw) x.s.cA (·∈x.b.cE)
 rd:∀s∈x.b.cE,Rd x.s.dv.nw x.s.dv.n s.cz
 map:rR x.s.dv.n x.s.mp
 n:64<=x.s.dv.n/\x.s.dv.n<=1024
 tk:∀a,Re (pt x.s.dv.nw) (·∈x.b.cE) a->x.s.mp a=2
 ac:∀a,x.s.mp a=2->Re (pt x.s.dv.nw) (·∈x.b.cE) a∨∃q∈x.dx,q.1=a
 hd:∀q∈x.dx,x.s.mp q.1=2/\¬Re (pt x.s.dv.nw) (·∈x.b.cE) q.1/\q.2.1<=x.s.base/\q≠cH
 nd:(x.dx.map Prod.fst).Nodup
 st:x.s.base<x.s.cA
 nx:1<=x.b.next
theorem GA(D:Nat->cD)(k:Nat):pt D cH k=cH:=by simp_all[pt,Gx,l6]
theorem afo(D:Nat->cD)(n:Nat):Rd D n cH:=
 ⟨λk _=>by rw[GA];exact⟨.inl ae,λh=>absurd ae h⟩,λk=>by rw[GA];exact .inl ae,λk _ _ h=>absurd (GA D k) h⟩
theorem Rd.congr{r:cy}(h:Rd D n r)(e:∀k,pt D r k≠cH->E (pt D r k).1=D (pt D r k).1):Rd E n r/\∀k,pt E r k=pt D r k:=by
 have a:=λk=>ac5 (D:=D) (E:=E) (λk _=>e k) k;have d:∀k,GP E n (pt E r k):=λk=>by rw[a];rcases h.2.1 k with c|c<;>grind[GP]
 refine⟨⟨λk i=>⟨d k,λb=>?_⟩,d,λk c g f=>?_⟩,a⟩;rw[a] at b|-;rw[e k b];exact(h.1 k i).2 b;rw[a] at f|-;rw[a];exact h.2.2 k c g f
def TI.Mi(T:TI f top M)(e:∀s,M s->∀k,g s.cz k=f s.cz k):TI g top M:=by refine⟨T.id,T.pos,T.st,fun {s k} h=>?_,fun {s t k l} h h'=>?_,fun {s t k} h h'=>?_,T.pr,fun {s p k} h h'=>?_,fun {s p q} h h'=>?_,T.wy⟩;rw[e s h];exact T.bt h;rw[e s h,e t h'];exact T.tN h h';rw[e s h,e t h'];exact T.E' h h';rw[e s h,e p h'];exact T.iV h h';simp only[e s h,e p h'];exact T.cO h h'
theorem Re.Mi(e:∀s,M s->∀k,g s.cz k=f s.cz k)(a:Nat):Re g M a↔Re f M a:=by grind[Re]
theorem Good.dev(G:Good x)(w:Wr (λa=>x.s.mp a=1) x.s.dv d):Good (asked x d):=by
 have k:∀s∈x.b.cE,∀k,pt x.s.dv.nw s.cz k≠cH->d.nw (pt x.s.dv.nw s.cz k).1=x.s.dv.nw (pt x.s.dv.nw s.cz k).1:=λs b k h=>w.nw (by
  have:=G.tk _ ⟨s,k,b,h,ae⟩;omega)
 have e:∀s∈x.b.cE,∀k,pt d.nw s.cz k=pt x.s.dv.nw s.cz k:=λs b=>((G.rd s b).congr (k s b)).2;have c:=λa=>Re.Mi (M:=(·∈x.b.cE)) e a;refine⟨G.inc,G.pK,G.vN,G.ti.Mi e,λs b=>?_,?_,?_,λa h=>G.tk a ((c a).1 h),λa h=>(G.ac a h).imp (c a).2 id,λq h=>?_,G.nd,G.st,G.nx⟩;show Rd d.nw d.n s.cz;rw[w.n];exact((G.rd s b).congr (k s b)).1
 show rR d.n x.s.mp;rw[w.n];exact G.map
 show 64<=d.n/\d.n<=1024;rw[w.n];exact G.n
 have:=G.hd q h;simp_all[asked]
theorem Good.leave(G:Good x){s:Pl}{jk:List cy}(f:s.dv.n=x.s.dv.n)(g:s.dv.nw=x.s.dv.nw)(w:s.base=x.s.base)(y:x.s.cA<=s.cA)(d:wM x.s.base jk x.s.mp s.mp)(m:Bu b.cE)(pK:b.cE.length<=32)(vN:Bt b.next (·∈b.cE))(C:x.b.next<=b.next)(E:TI (pt x.s.dv.nw) s.cA (·∈b.cE))(r:∀t∈b.cE,t.cz=cH∨∃u∈x.b.cE,u.cz=t.cz)(z:∀q∈jk,Re (pt x.s.dv.nw) (·∈x.b.cE) q.1/\¬Re (pt x.s.dv.nw) (·∈b.cE) q.1)(A:∀a,Re (pt x.s.dv.nw) (·∈x.b.cE) a->(∀q∈jk,q.1≠a)->Re (pt x.s.dv.nw) (·∈b.cE) a):Good {x with b:=b,s:=s}:=by
 have n:∀a,Re (pt x.s.dv.nw) (·∈b.cE) a->Re (pt x.s.dv.nw) (·∈x.b.cE) a:=by rintro a ⟨t,k,l,i,o⟩;rcases r t l with h|⟨u,hu,h⟩;rw[h,GA] at i;grind;grind[Re]
 have B:∀a,Re (pt x.s.dv.nw) (·∈x.b.cE) a->a≠0:=λa h e=>by have:=G.tk a h;have:=(G.map a).2.1 cw;omega
 refine⟨m,pK,vN,?_,λt l=>?_,?_,?_,λa h=>?_,λa h=>?_,λq h=>?_,G.nd,?_,gO G.nx C⟩;grind;(show Rd s.dv.nw s.dv.n t.cz;rw[g,f];rcases r t l with h|⟨u,hu,h⟩);grind[afo];rw[<-h];exact G.rd u hu;show rR s.dv.n s.mp;rw[f];intro a;exact⟨d.le (λa=>(G.map a).1) a,by have:=(G.map a).2;have:=d.zero a;grind⟩
 show 64<=s.dv.n/\s.dv.n<=1024;rw[f];exact G.n
 have h:Re (pt s.dv.nw) (·∈b.cE) a:=h;rw[g] at h;exact(d.two a).2 ⟨G.tk a (n a h),λq j _ e=>(z q j).2 iG⟩;(obtain⟨i,o⟩:=(d.two a).1 h;show Re (pt s.dv.nw) (·∈b.cE) a∨_;rw[g];rcases G.ac a i with c|c);exact .inl (A a c λq j e=>o q j (λv=>by rw[v] at e;exact B a c e.symm) e);grind;have c:=G.hd q h;refine⟨(d.two _).2 ⟨c.1,λp D _ e=>c.2.1 iG⟩,?_,by grind,c.2.2.2⟩;grind;show s.base<s.cA;rw[w];exact oS G.st y
def wM.nil(base:Nat)(m:Nat->Nat):wM base [] m m:=⟨by simp,λ_ h=>.inl h,λ_ h=>h,λ_=>.rfl,λh=>h⟩
theorem vI{s:Nat}(h:s<=281474976710655):iA s=s+1:=by grind[iA]
theorem Fa{cC:fh}(h:rn cC=some jA):dG cC=some (jA,qz):=by grind[rn]
theorem yM{cC:fh}(h:nq cC=some (jA,cW)):dG cC=some (jA,cW)/\cW≠qz:=by grind[nq]
theorem Ua{cC:fh}(h:dG cC=some (jA,cW)):dV jA=true:=by grind[dG]
def Good.names(G:Good x):∀s t,s∈x.b.cE->t∈x.b.cE->dE s=dE t->s=t:=λ_ _ h a e=>G.vN.name h a e
theorem Ub:(·∈l++[s])=λt=>t∈l∨t=s:=by grind
def GW(x y:GT):Prop:=Good y/\Wr (λa=>x.s.mp a=1) x.s.dv y.s.dv
theorem sF{x:GT}(G:Good x){k:GT->GT×Int}(b:Wr (λa=>x.s.mp a=1) x.s.dv (k x).1.s.dv)(c:(k x).2=0->Good (k x).1):GW x (dB x k).1:=by unfold dB uI;split;exact⟨G,.refl _⟩;split;exact⟨G.dev b,b⟩;grind[GW]
theorem Good.added(G:Good x)(u:x.b.next<=281474976710651)(v:x.b.cE.length<32)(g:s.cW=false)(f:s.id=x.b.next)(ho:s.cG=x.b.next)(i:s.cO=[])(j:∀t∈x.b.cE,dE t≠dE s)(h:(s.cT=0/\s.cz=cH)∨∃p∈x.b.cE,p.cW=true/\p.id=s.cT/\s.cz=p.cz):Good (sC x ⟨iA x.b.next,x.b.cE++[s]⟩):=by
 have l:=G.nx;have e:iA x.b.next=x.b.next+1:=vI cw;have m:∀t∈x.b.cE,t.id≠s.id/\t.cT≠s.id:=λt b=>by have a:=G.vN.lt b;refine⟨cw,λe=>?_⟩;obtain⟨p,c,q,_⟩:=G.vN.pr b cw;have:=G.vN.lt c;omega
 have c:s.cT≠0->∃p,p∈x.b.cE/\p.id=s.cT/\p.cW=true:=λr=>by grind
 have d:s.cT≠s.id:=λo=>by grind
 have n:∀a,Re (pt x.s.dv.nw) (·∈x.b.cE) a->Re (pt x.s.dv.nw) (·∈x.b.cE++[s]) a:=λa ⟨t,k,b,h1⟩=>⟨t,k,mem_append_left _ b,h1⟩;refine G.leave (s:=x.s) (jk:=[]) ae ae ae (dK _) (.nil _ _) (G.inc.snoc λt b=>by rw[f];exact(G.vN.lt b).2) sp_ ?_ iG ?_ ?_ dU (λa h _=>n a h);show Bt (iA x.b.next) (·∈x.b.cE++[s]);rw[e,Ub];exact G.vN.add g f l ho j c
 (show TI _ _ (·∈x.b.cE++[s]);rw[Ub];refine G.ti.add g cw m d i ?_);grind[GA];grind
theorem Q6{x:GT}(G:Good x)(cC:fh)(n:Int):GW x (dB x (mH cC n)).1:=by refine sF G ?_ ?_<;>unfold mH qI;split;exact .refl _;split<;>exact .refl _;split;simp;next h1=>split;omega;next h2=>intro _;unfold jh at h2|-;split at h2;simp at h2;next jA hvol=>split at h2;simp at h2;next hr=>split at h2;simp at h2;next hl=>split at h2;simp at h2;next hn=>simp only[hvol,hr,hl,hn,lE];refine G.added cw cw ae ae ae ae (λt a e=>?_) cj;refine A8 G.inc G.names (Fa hvol) hn a ?_;unfold vH;rw[cL ae,e];rfl
theorem Good.afp(G:Good x){t:cR}(a:t∈x.b.cE){v:fh}(h:dE t=(0,v)):t.cW=false/\t.name=v:=by unfold dE at h;cases e:t.cW with|false=>grind|true=>rw[e] at h;obtain⟨u,c,_,b⟩:=G.vN.own a e;have:=G.vN.lt c;grind
theorem Good.adk(G:Good x)(f:cW≠qz){t:cR}(h:vH x.b.cE jA cW t):t.cW=true/\t.name=cW/\∃v∈x.b.cE,v.cW=false/\v.name=jA/\t.cG=v.id:=by unfold vH at h;rw[cM f] at h;obtain⟨v,c,d,b⟩:=h;have a:=G.afp c d;unfold dE at b;cases e:t.cW with|false=>rw[e] at b;have:=fK Prod.fst b;have:=G.vN.lt c;grind|true=>grind
theorem Uc{x:GT}(G:Good x)(f t:fh):GW x (dB x (qJ f t)).1:=by refine sF G ?_ ?_<;>unfold qJ qI;split;exact .refl _;split<;>exact .refl _;split;simp;next h1=>split;omega;next h2=>intro _;unfold jH at h2|-;split at h2;simp at h2;next fs hfs=>split at h2;simp at h2;next jA hvol=>split at h2;simp at h2;next i hi=>split at h2;simp at h2;next hl=>split at h2;simp at h2;next hn=>obtain⟨g,d⟩:=fs;have a:=yM hfs;have b:=qK G.inc a.1 hi;simp only[hfs,hvol,hi,hl,hn,lE];refine G.added cw cw ae ae ae ae (λt c e=>?_) (.inr ⟨_,(jO b.1).1,(G.adk a.2 b.2.1).1,ae,ae⟩);refine A8 G.inc G.names (Fa hvol) hn c ?_;unfold vH;rw[cL ae,e];rfl
def Good.Ud(G:Good x):1<=x.s.cA:=by have:=G.st;omega
theorem Wn{x:GT}(G:Good x)(cC:fh):GW x (dB x (vB cC)).1:=by
 refine sF G ?_ ?_<;>unfold vB;split;exact .refl _;split<;>exact .refl _;split;simp
 next h1=>
 split
 . omega
 next h2=>
 intro _;unfold iD at h2|-;split at h2
 . simp at h2
 next jA cW hfs=>
 split at h2
 . simp at h2
 next i hi=>
 split at h2
 . simp at h2
 next hl=>
 split at h2
 . simp at h2
 next hn=>
 split at h2
 . simp at h2
 next hst=>
 have a:=yM hfs;have b:=qK G.inc (Hw (Ua a.1)) hi;have d:=(jO b.1).1;have c:dE (di x.b.cE i)=(0,jA):=by have:=b.2.1;unfold vH at this;grind
 have j:=G.afp d c;have e:iA x.b.next=x.b.next+1:=vI cw;have k:iA x.s.cA=x.s.cA+1:=vI cw;simp only[hfs,hi,hl,hn,hst,lE];generalize hv:di x.b.cE i=v at*;have m:=G.vN.lt d;have mem:(·∈(x.b.cE++[{v with id:=x.b.next,name:=cW,cW:=true,cG:=v.id,cA:=x.s.cA}]).set i {v with cT:=x.b.next,cO:=[]})=λt=>oR v {v with cT:=x.b.next,cO:=[]} (·∈x.b.cE) t∨t= {v with id:=x.b.next,name:=cW,cW:=true,cG:=v.id,cA:=x.s.cA}:=by
  funext t;rw[set_append_left _ _ b.1,fL,eV,G.inc.set b.1,hv]
 have l:∀t∈x.b.cE,t.id≠x.b.next/\t.cT≠x.b.next:=λt f=>by
  have a:=G.vN.lt f;refine⟨cw,λe=>?_⟩;obtain⟨p,g,k,_⟩:=G.vN.pr f cw;have:=G.vN.lt g;omega
 show Good {x with b:=⟨iA x.b.next,(x.b.cE++[_]).set i _⟩,s:=sZ x.s};refine G.leave (s:=sZ x.s) (jk:=[]) ae ae ae (by grind[sZ]) (.nil _ _) ?_ sp_ ?_ iG ?_ ?_ dU λa h _=>?_
 . rw[set_append_left _ _ b.1];refine(G.inc.Gz (by rw[hv])).snoc λt f=>?_;rcases(G.inc.set b.1 t).1 f with h|rfl
   . exact(G.vN.lt h.1).2
   grind
 . rw[mem];simp only[e];exact G.vN.cW d j.1 (λp g e=>G.ti.st g (G.ti.om d g e).1) G.nx ⟨ae,ae,ae,ae⟩ ⟨ae,j.1,ae,ae,ae⟩ (λt f n=>by
    refine A8 G.inc G.names a.1 hn f ?_;unfold vH;rw[cM a.2];grind[dE])
 . rw[mem];show TI _ (iA _) _;rw[k];exact G.ti.cW G.Ud d j.1 (show x.b.next≠0 by omega) l ⟨ae,ae,ae,ae,ae⟩ ⟨ae,j.1,ae,ae,ae⟩
 . grind
 . rw[mem];exact(afm (M:=(·∈x.b.cE)) (v:=v) (sn:={v with id:=x.b.next,name:=cW,cW:=true,cG:=v.id,cA:=x.s.cA}) (v':={v with cT:=x.b.next,cO:=[]}) d ae ae a).2 h
theorem Good.tH(G:Good x)(a:s∈x.b.cE){q:cy}(e:pt x.s.dv.nw s.cz k=q)(b:q≠cH):q.2.1<=eM x.b.cE s.id↔Up (·∈x.b.cE) s q.2.1:=by subst e;refine adi G.inc (λs h=>G.ti.pos h) a (G.ti.bt a b).1 λh=>?_;obtain⟨p,c,e,_⟩:=G.ti.pr a h;grind
theorem Good.all(G:Good x)(b:s∈x.b.cE)(h:(fA x.s s.cz (eM x.b.cE s.id)).2.2=0)(q:cy):q∈(fA x.s s.cz (eM x.b.cE s.id)).2.1↔q≠cH/\∃k,pt x.s.dv.nw s.cz k=q/\¬Up (·∈x.b.cE) s q.2.1:=by rw[(yf x.s s.cz (eM x.b.cE s.id)).2.2.1 h (G.rd s b).2.2];constructor;rintro⟨k,_,e,a,c⟩;exact⟨a,k,e,λh=>by have:=(G.tH b e a).2 h;omega⟩;rintro⟨a,k,e,c⟩;refine⟨k,?_,e,a,?_⟩;apply yQ;intro d;refine a (e.symm.trans ?_);unfold pt;grind;exact Nat.lt_of_not_le λh=>c ((G.tH b e a).1 h)
theorem Good.left(G:Good x)(g:s∈x.b.cE)(c:Bu b.cE)(pK:b.cE.length<=32)(vN:Bt b.next (·∈b.cE))(z:b.next=x.b.next)(n:TI (pt x.s.dv.nw) x.s.cA (·∈b.cE))(l:∀t∈b.cE,t.cz=cH∨∃u∈x.b.cE,u.cz=t.cz)(w:∀q k,q≠cH->pt x.s.dv.nw s.cz k=q->¬Up (·∈x.b.cE) s q.2.1->¬Re (pt x.s.dv.nw) (·∈b.cE) q.1)(y:∀a,Re (pt x.s.dv.nw) (·∈x.b.cE) a->(∀q k,q≠cH->pt x.s.dv.nw s.cz k=q->¬Up (·∈x.b.cE) s q.2.1->q.1≠a)->Re (pt x.s.dv.nw) (·∈b.cE) a):
 Wr (λa=>x.s.mp a=1) x.s.dv (pV b s x).1.s.dv/\((pV b s x).2=0->Good (pV b s x).1):=by
 have p:=yf x.s s.cz (eM x.b.cE s.id);have j:=G.all g;have i:=p.1.mono (B:=λa=>x.s.mp a=1) λ_ h=>h.elim;unfold pV wL;generalize fA x.s s.cz (eM x.b.cE s.id)=r at*;split;next h=>exact⟨i.wr,λo=>by grind[x8]⟩
 next h=>
 have m:∀q∈r.2.1,q.1<1024:=λq f=>by obtain⟨v,k,e,_⟩:=((j cw) q).1 f;have:=(G.rd s g).2.1 k;rw[e] at this;rcases this with h|h;grind;have:=G.n;omega
 have d:=wX r.2.1 r.1 m;rw[p.1.ba,p.2.1] at d;refine⟨by show Wr _ _ (dI _ _).dv;rw[d.2.1];exact i.wr,λ_=>?_⟩;refine G.leave (s:=dI r.1 r.2.1) (by rw[d.2.1];exact p.1.wr.n) (by rw[d.2.1];exact p.1.nn) d.2.2.1 (by rw[d.2.2.2,p.1.st];omega) d.1 c pK vN cw (by rw[d.2.2.2,p.1.st];exact n) l ?_ ?_;intro q f;grind[Re];grind
def yg(G:Good x){cC:fh}{c:Int}(h:nt x.b.cE cC=(some i,c)):i<x.b.cE.length/\di x.b.cE i∈x.b.cE/\(di x.b.cE i).cW=false:=by unfold nt at h;split at h;cases h;next jA hv=>split at h;cases h;next j hj=>cases h;have b:=qK G.inc (Fa hv) hj;have:=b.2.1;unfold vH at this;rw[cL ae] at this;exact⟨b.1,(jO b.1).1,(G.afp (jO b.1).1 this).1⟩
theorem Wo{x:GT}(G:Good x)(cC:fh):GW x (dB x (tE cC)).1:=by
 have r:Wr (λa=>x.s.mp a=1) x.s.dv (tE cC x).1.s.dv/\((tE cC x).2=0->Good (tE cC x).1):=by
  unfold tE pD;split;next h=>exact⟨.refl _,λn=>absurd n h⟩
  next h2=>
  unfold kV at h2|-;split at h2;grind[nt]
  next i c hi=>
  split at h2;simp at h2
  next j hj=>
  simp only[hi,hj];have b:=yg G hi;have d:=lq hj;generalize hv:di x.b.cE i=v at*;have u:=G.ti.om b.2.1 d.2.1 d.2.2;have s:∀k,pt x.s.dv.nw (di x.b.cE j).cz k≠cH->(pt x.s.dv.nw (di x.b.cE j).cz k).2.1<=(di x.b.cE j).cA:=λk h=>by have:=(G.ti.bt d.2.1 h).2;simp_all[Cv]
  have mem:(·∈x.b.cE.set i {v with cz:=(di x.b.cE j).cz,cO:=[]})=oR v {v with cz:=(di x.b.cE j).cz,cO:=[]} (·∈x.b.cE):=by funext t;rw[G.inc.set b.1,hv]
  have C:ade (pt x.s.dv.nw) (pt x.s.dv.nw) x.s.cA (·∈x.b.cE) v {v with cz:=(di x.b.cE j).cz,cO:=[]}:=
   ⟨b.2.2,⟨ae,ae,ae⟩,λ_ _ _ _=>ae,λk=>.inr (.inr (.inl ⟨_,d.2.1,d.2.2,ae⟩)),λp q o e=>by rw[G.ti.id o d.2.1 (e.trans d.2.2.symm)];simp,λ_=>ae⟩
  have m:∀q k,q≠cH->pt x.s.dv.nw v.cz k=q->¬Up (·∈x.b.cE) v q.2.1->afl (pt x.s.dv.nw) (pt x.s.dv.nw) (·∈x.b.cE) v (di x.b.cE j).cz q:=λq k l e f=>⟨l,k,e,λh=>f ⟨_,d.2.1,d.2.2,by grind⟩,f⟩;refine G.left b.2.1 (G.inc.Gz (by rw[hv])) bN (by rw[mem];exact G.vN.sub b.2.1 ⟨ae,ae,ae,ae,ae,ae⟩) ae (by rw[mem];exact G.ti.adf G.Ud b.2.1 C) ?_ ?_ ?_;grind;intro q k l e f;rw[mem];exact G.ti.OU b.2.1 C (m q k l e f);intro a h g;rw[mem];exact G.ti.OV b.2.1 C h λq ⟨l,k,e,_,f⟩=>g q k l e f
 grind[sF]
theorem Good.way(G:Good x)(c:v∈x.b.cE)(jA:v.cW=false):∃ss q,sJ x.b.cE v.id=(ss.map cR.id,q)/\uK (·∈x.b.cE) v.id v ss q/\(ss.length=32∨∀t∈x.b.cE,t.id=q->q≠0->t.cG≠v.id):=by obtain⟨k,d,e⟩:=G.inc.vF c;obtain⟨ss,q,f,a,b⟩:=adj G.inc v.id 32 [] v;refine⟨ss,q,?_,a,b.imp id And.right⟩;grind[sJ]
def Good.afq(G:Good x)(d:v∈x.b.cE)(jA:v.cW=false)(f:¬0<(sJ x.b.cE v.id).1.length):∀t,t∈x.b.cE->t.cW=true->t.cG≠v.id:=λt m l e=>by obtain⟨p,c,_,g,b⟩:=G.vN.last d (λs h i=>G.ti.st h i) _ t (dK _) m l e;obtain⟨ss,q,j,k,a⟩:=G.way d jA;rw[j] at f;cases ss with|cons=>simp at f|nil=>cases k;rcases a with a|a;simp at a;exact a p c b (by rw[<-b];exact G.ti.pos c) g
theorem GB{x:GT}(G:Good x)(cC:fh):Wr (λa=>x.s.mp a=1) x.s.dv (pD x (eX x.b cC)).1.s.dv/\((pD x (eX x.b cC)).2=0->Good (pD x (eX x.b cC)).1):=by
 unfold pD;split;next h=>exact⟨.refl _,λo=>absurd o h⟩
 next f=>
 unfold eX at f|-;split at f;grind[nt]
 next i c hi=>
 split at f;simp at f
 next hw=>
 simp only[hi,hw,lE];have b:=yg G hi;generalize hv:di x.b.cE i=v at*;have mem:(·∈x.b.cE.eraseIdx i)=nX v (·∈x.b.cE):=by funext t;rw[G.inc.erase b.1,hv]
 have r:∀t,t∈x.b.cE->t.cT≠v.id:=λt d e=>by have:=(G.ti.om d b.2.1 e.symm).1;grind
 refine G.left b.2.1 (G.inc.OW i) (gO (GX _ _) G.pK) (by rw[mem];exact G.vN.jk b.2.2 b.2.1 (G.afq b.2.1 b.2.2 hw)) ae (by rw[mem];exact G.ti.jk b.2.1 r) (λt d=>.inr ⟨t,BB d,ae⟩) ?_ ?_;rintro q k j rfl m;rw[mem];rintro⟨t,l,d,f,n⟩;exact d.2 (G.ti.alone b.2.1 b.2.2 j m d.1 f n);rintro a ⟨t,k,d,j,rfl⟩ g;rw[mem];by_cases e:t=v;subst e;by_cases m:Up (·∈x.b.cE) t (pt x.s.dv.nw t.cz k).2.1;obtain⟨p,s,e,_,_,n⟩:=G.ti.up d j m;grind[Re,nX];grind;exact⟨t,k,⟨d,e⟩,j,ae⟩
theorem sG:∀(a b r:List cy),gM a b=some r->∀q,q∈r↔q∈a∨q∈b
 | [],b,r,h,q=>by grind[gM]
 |p::a,[],r,h,q=>by grind[gM]
 |p::a,c::b,r,h,q=>by
  unfold gM at h;split at h
  . obtain⟨r',d,rfl⟩:=yP.1 h;have:=sG a (c::b) r' d q;simp only[ib,this];grind
  split at h
  . obtain⟨r',d,rfl⟩:=yP.1 h;have:=sG (p::a) b r' d q;simp only[ib] at this|-;rw[this];grind
  . cases h
termination_by a b=>a.length+b.length
theorem Ec{x:GT}(G:Good x)(cC:fh):Wr (λa=>x.s.mp a=1) x.s.dv (vY x (ez x.b cC)).1.s.dv/\((vY x (ez x.b cC)).2=0->Good (vY x (ez x.b cC)).1):=by
 unfold vY;split;exact bx;split;next h=>exact⟨.refl _,λJ=>absurd J h⟩
 next D f=>
 unfold ez at f|-;split at f;simp at f
 next vs hfs=>
 split at f;simp at f
 next i hi=>
 split at f;simp at f
 next hcl=>
 split at f;simp at f
 next j hj=>
 split at f;simp at f
 next all hall=>
 split at f;simp at f
 next hlen=>
 simp only[hfs,hi,hcl,hj,hall,hlen,lE];obtain⟨T,sn⟩:=vs;have a:=yM hfs;have b:=qK G.inc a.1 hi;have m:=(jO b.1).1;have p:=(G.adk a.2 b.2.1).1;have l:=lq hj;generalize hs:di x.b.cE i=s at*;obtain⟨Q,F,H⟩:=G.inc.vF m;have o:(di x.b.cE j).cT=s.id/\(di x.b.cE j).cG=s.cG:=by have r:=l.2.2;unfold pI at r;rw[F] at r;simp only[H,p,nI] at r;cases A:(find? (λw=>decide (w.cG=s.cG)) (filter (λw=>decide (w.cT=s.id)) x.b.cE)) with|none=>rw[A] at r;exact absurd r (G.ti.pos l.2.1)|some c=>rw[A] at r;have N:=find?_some A;have I:=u9.1 (mem_of_find?_eq_some A);rw[G.ti.id l.2.1 I.1 r];grind
 have n:∀t,t∈x.b.cE->t.cT=s.id->t=di x.b.cE j:=λt C e=>by
  have:t.cG=s.cG:=by apply yQ;intro L;simp_all[rV]
  exact G.vN.one m p C l.2.1 e o.1 this o.2
 generalize hjj:di x.b.cE j=jr at*;have E:s≠jr:=λe=>(G.ti.om l.2.1 m o.1.symm).2.2 e;have M:i≠j:=λe=>E iG;have mem:(·∈(x.b.cE.set j {jr with cO:=all,cT:=s.cT}).eraseIdx i)=oR jr {jr with cO:=all,cT:=s.cT} (nX s (·∈x.b.cE)):=by
  funext t;rw[(G.inc.Gz (by rw[hjj])).erase iG];have:di (x.b.cE.set j {jr with cO:=all,cT:=s.cT}) i=s:=by simp_all[di,oU]
  rw[this];have st:=G.inc.set l.1 (y:={jr with cO:=all,cT:=s.cT}) t;rw[hjj] at st;unfold nX oR at*;simp only[st];have R:({jr with cO:=all,cT:=s.cT}:cR)≠s:=λe=>E (G.ti.id m l.2.1 (by rw[<-e]));refine propext ⟨?_,?_⟩;rintro⟨h|rfl,f⟩;grind[nX];grind;rintro(h|rfl);grind[nX];grind
 have O:∀q,q∈jr.cO->(iP q (eM x.b.cE s.id)=true↔¬Up (·∈x.b.cE) s q.2.1):=λq v=>by obtain⟨B,k,e,_⟩:=(G.ti.cO l.2.1 m o.1.symm).1 v;rw[pQ,<-G.tH m e B];grind
 have K:∀q,q∈all↔(q∈jr.cO/\Up (·∈x.b.cE) s q.2.1)∨q∈s.cO:=λq=>by rw[sG _ _ _ hall];unfold mr;grind
 have u:∀q,q∈jT jr.cO (eM x.b.cE s.id)↔q∈jr.cO/\¬Up (·∈x.b.cE) s q.2.1:=λq=>by grind[jT]
 have z:∀q,q∈jr.cO->Re (pt x.s.dv.nw) (·∈x.b.cE) q.1:=λq v=>by obtain⟨B,k,rfl,_⟩:=(G.ti.cO l.2.1 m o.1.symm).1 v;exact⟨s,k,m,B,ae⟩
 have d:=wX (jT jr.cO (eM x.b.cE s.id)) x.s λq v=>by have:=G.tk _ (z q ((u q).1 v).1);have:=(G.map q.1).2.1 cw;have:=G.n;omega
 refine⟨by show Wr _ _ (dI _ _).dv;rw[d.2.1];exact .refl _,λ_=>?_⟩;refine G.leave (s:=dI x.s (jT jr.cO (eM x.b.cE s.id))) (by rw[d.2.1]) (by rw[d.2.1]) d.2.2.1 cw d.1 ?_ ?_ ?_ (dK _) ?_ ?_ ?_ ?_;exact Bu.OW (G.inc.Gz (by rw[hjj])) i;exact gO (GX _ _) bN;rw[mem];exact G.vN.cut m p l.2.1 o.1 o.2 n ⟨ae,ae,ae,ae,ae,ae⟩;rw[mem,d.2.2.2];exact G.ti.cut m p l.2.1 o.1 n ⟨ae,ae,ae,ae,ae⟩ K;intro t C;rcases wq (BB C) with h|rfl<;>grind;intro q v;have:=(u q).1 v;exact⟨z q this.1,by rw[mem];exact G.ti.adg (j':={jr with cO:=all,cT:=s.cT}) m l.2.1 o.1 n ae this.1 this.2⟩;intro a h g;rw[mem];exact G.ti.adh (j':={jr with cO:=all,cT:=s.cT}) m l.2.1 o.1 ae h λq D f=>g q ((u q).2 ⟨D,f⟩)
theorem Ed{x:GT}(G:Good x)(cC:fh):GW x (dB x (dQ cC)).1:=by
 refine sF G ?_ ?_<;>unfold dQ;cases h:dG cC with|none=>exact .refl _|some p=>grind[GB,Ec]
 cases h:dG cC with|none=>simp|some p=>simp only[Option.elim];split;exact(GB G cC).2;simp_all[Ec]
theorem Kp.par{i k:Nat}(h:Kp i k)(a:0<k)(b:i<64):Kp i (par k):=by unfold Kp Go.Proofs.YtklligbjoplbgaaGreat.par at*;grind
theorem Ch.mono{s t:Pl}{top:cy}(C:Ch s t cz top i iV)(h:i<64)(j:adb s.dv.nw cz)(l:∀k,pt s.dv.nw cz k≠cH->(pt s.dv.nw cz k).2.1<=s.cA):adb t.dv.nw top:=by
 intro k d f c;have g:pt t.dv.nw top (par k)≠cH:=λe=>by rw[ac3 _ _ d f,e,Gx] at c;exact c ae
 by_cases a:Kp i k;rw[(C.new k a c).1.bi,(C.new _ (a.par d h) g).1.bi];omega;rw[C.fV k a] at c|-;by_cases b:Kp i (par k);rw[(C.new _ b g).1.bi];grind;rw[C.fV _ b];exact j k d f c
theorem Good.ag6(G:Good x){v':cR}(o:v∈x.b.cE)(jA:v.cW=false){t:Pl}{top:cy}(Z:i<64)(C:Ch x.s t v.cz top i iV)(R:k<x.b.cE.length)(D:di x.b.cE k=v)(L:aaa v v')(E:v'.cz=top){jk:List cy}(O:∀q,q∈v'.cO↔q∈v.cO∨(q∈iV/\q.2.1<=eM x.b.cE v.id))(Y:∀q,q∈jk↔q∈iV/\eM x.b.cE v.id<q.2.1):
 Good {x with b:=⟨x.b.next,x.b.cE.set k v'⟩,s:=dI t jk}:=by
 have two:∀s j,s∈x.b.cE->pt x.s.dv.nw s.cz j≠cH->x.s.mp (pt x.s.dv.nw s.cz j).1=2:=λs j h f=>G.tk _ ⟨s,j,h,f,ae⟩;have B:∀s∈x.b.cE,∀j,pt x.s.dv.nw s.cz j≠cH->t.dv.nw (pt x.s.dv.nw s.cz j).1=x.s.dv.nw (pt x.s.dv.nw s.cz j).1:=λs h j f=>C.pw.nw _ iG;have w:∀s∈x.b.cE,∀j,pt t.dv.nw s.cz j=pt x.s.dv.nw s.cz j:=λs h=>((G.rd s h).congr (B s h)).2;have K:∀j,pt x.s.dv.nw v.cz j≠cH->(pt x.s.dv.nw v.cz j).2.1<=x.s.cA:=λj h=>by have:=(G.ti.bt o h).2;grind[Cv]
 have mem:(·∈x.b.cE.set k v')=oR v v' (·∈x.b.cE):=by funext t;rw[G.inc.set R,D]
 have u:∀q,q∈iV->q≠cH/\∃j,Kp i j/\pt x.s.dv.nw v.cz j=q/\pt t.dv.nw top j≠q:=λq h=>by obtain⟨f,j,a,rfl⟩:=(C.iV q).1 h;refine⟨f,j,a,ae,λe=>?_⟩;have c:=(C.new j a iG).1.fr;grind
 have F:∀j,pt x.s.dv.nw v.cz j≠cH->pt t.dv.nw top j≠pt x.s.dv.nw v.cz j->pt x.s.dv.nw v.cz j∈iV:=λj f c=>(C.iV _).2 ⟨f,j,yQ λh=>c (C.fV j h),ae⟩;have I:∀j,pt x.s.dv.nw v.cz j≠cH->((pt x.s.dv.nw v.cz j).2.1<=eM x.b.cE v.id↔Up (·∈x.b.cE) v (pt x.s.dv.nw v.cz j).2.1):=λj h=>G.tH o ae h;have T:ade (pt x.s.dv.nw) (pt t.dv.nw) x.s.cA (·∈x.b.cE) v v':=by refine⟨jA,⟨L.1,L.2.2.2.1,L.2.1⟩,λs h _ j=>w s h j,λj=>?_,λp q y e=>?_,λe=>?_⟩;rw[E];by_cases a:Kp i j;by_cases f:pt t.dv.nw top j=cH;grind;have n:=(C.new j a f).1;refine .inr (.inr (.inr ⟨n.bi,λh=>by have:=G.tk _ h;have:=n.fr;omega,λl c e=>?_⟩));by_cases b:Kp i l;exact C.inj j l a b f c e;rw[C.fV l b] at c e;have:=two v l o c;have:=n.fr;grind;exact .inr (.inl (C.fV j a));(have H:=G.ti.om o y e;have J:∀j,pt x.s.dv.nw p.cz j≠cH->(pt x.s.dv.nw p.cz j).2.1<=p.cA:=λj h=>by have:=(G.ti.bt y h).2;simp_all[Cv]);(have:=G.ti.st y H.1;have H:∀j,pt x.s.dv.nw p.cz j≠cH->pt x.s.dv.nw v.cz j≠pt x.s.dv.nw p.cz j->pt t.dv.nw top j≠pt x.s.dv.nw p.cz j:=λj f c M=>by by_cases a:Kp i j;have:=(C.new j a iG).1.bi;grind;rw[C.fV j a] at M;exact c M);rw[O,E,G.ti.cO o y e];constructor;rintro(⟨f,j,rfl,c⟩|⟨c,g⟩);grind;obtain⟨f,j,a,rfl,r⟩:=u q c;obtain⟨H,J,V,_,_,X⟩:=G.ti.up o f ((I j f).1 g);rw[G.ti.id y J (e.trans V.symm)];grind;rintro⟨f,j,rfl,c⟩;by_cases g:pt x.s.dv.nw v.cz j=pt x.s.dv.nw p.cz j;rw[<-g] at f c|-;exact .inr ⟨F j f c,(I j f).2 ⟨p,y,e,by grind⟩⟩;grind;apply List.eq_nil_iff_forall_not_mem.2;intro q z;rcases(O q).1 z with h|⟨c,g⟩;rw[G.ti.wy o e] at h;cases h;obtain⟨f,j,a,rfl,_⟩:=u q c;exact G.ti.ag3 e _ ((I j f).1 g)
 have F:∀q,q∈jk↔afl (pt x.s.dv.nw) (pt t.dv.nw) (·∈x.b.cE) v v'.cz q:=λq=>by rw[Y,E];constructor;rintro⟨c,g⟩;obtain⟨f,j,a,rfl,r⟩:=u q c;exact⟨f,j,ae,r,λh=>by grind⟩;rintro⟨f,j,rfl,c,g⟩;grind
 have H:∀a,Re (pt x.s.dv.nw) (·∈x.b.cE) a->x.s.mp a=2:=G.tk;have d:=wX jk t λq z=>by obtain⟨f,j,e,_⟩:=(F q).1 z;have:=two v j o iG;rw[e] at this;have:=(G.map q.1).2.1 cw;have:=G.n;omega
 have H:t.dv.n=x.s.dv.n:=C.pw.wr.n;have N:∀j,GP t.dv.nw t.dv.n (pt t.dv.nw top j):=λj=>by by_cases f:pt t.dv.nw top j=cH;exact .inl f;by_cases a:Kp i j;have n:=(C.new j a f).1;exact .inr ⟨by rw[H];exact((G.map _).2.1 (by have:=n.fr;omega)).2,n.su⟩;rw[C.fV j a] at f|-;rcases(G.rd v o).2.1 j with h|h<;>grind[GP]
 have I:Rd t.dv.nw t.dv.n top:=by refine⟨λj Q=>⟨N j,λf=>?_⟩,N,C.mono Z (G.rd v o).2.2 K⟩;by_cases a:Kp i j;exact(C.new j a f).2 Q;rw[C.fV j a] at f|-;rw[B v o j f];exact((G.rd v o).1 j Q).2 f
 have I:∀a,t.mp a=2->x.s.mp a=2∨∃j,pt t.dv.nw top j≠cH/\(pt t.dv.nw top j).1=a:=λa h=>by by_cases c:x.s.mp a=1;rcases C.X0 a c with g|⟨_,j,_,g⟩<;>grind;rw[C.mp2 a c] at h;omega
 have U:∀a,x.s.mp a=2->t.mp a=2:=λa h=>by rw[C.mp2 a cw];exact h
 have K:∀a,Re (pt t.dv.nw) (oR v v' (·∈x.b.cE)) a->t.mp a=2:=by rintro a ⟨s,j,A|rfl,c,g⟩;rw[w s A.1] at c g;rw[<-g];exact U _ (two s j A.1 c);rw[E] at c g;by_cases b:Kp i j;rw[<-g];exact(C.new j b c).1.tk;rw[C.fV j b] at c g;grind
 refine⟨G.inc.Gz (by rw[D];exact L.1),by simp;exact G.pK,?_,?_,λs A=>?_,λa=>?_,?_,λa h=>?_,λa h=>?_,λq h=>?_,G.nd,?_,G.nx⟩;show Bt x.b.next (·∈x.b.cE.set k v');rw[mem];exact G.vN.sub o L
 show TI (pt (dI t jk).dv.nw) (dI t jk).cA (·∈x.b.cE.set k v');rw[mem,d.2.1,d.2.2.2,C.pw.st];exact G.ti.adf G.Ud o T
 (show Rd (dI t jk).dv.nw (dI t jk).dv.n s.cz;rw[d.2.1];rcases(G.inc.set R s).1 A with h|rfl);rw[H];exact((G.rd s h.1).congr (B s h.1)).1;grind;(show(dI t jk).mp a<=3/\((dI t jk).mp a≠0↔4<=a/\a<(dI t jk).dv.n);rw[d.2.1,H];have m:∀a,t.mp a<=3/\(t.mp a≠0↔4<=a/\a<x.s.dv.n):=λa=>by have:=G.map a;by_cases c:x.s.mp a=1;rcases C.X0 a c with g|⟨g,_⟩<;>rw[g]<;>rw[c] at this<;>simp at this ⊢<;>exact this;rw[C.mp2 a c];exact this);exact⟨d.1.le (λa=>(m a).1) a,by have:=(m a).2;have:=d.1.zero a;grind⟩;show 64<=(dI t jk).dv.n/\_;rw[d.2.1,H];exact G.n
 have h:Re (pt (dI t jk).dv.nw) (·∈x.b.cE.set k v') a:=h;rw[d.2.1,mem] at h;exact(d.1.two a).2 ⟨K a h,λq z _ e=>G.ti.OU o T ((F q).1 z) iG⟩;(show Re (pt (dI t jk).dv.nw) (·∈x.b.cE.set k v') a∨_;rw[d.2.1,mem];obtain⟨c,g⟩:=(d.1.two a).1 h;rcases I a c with r|⟨j,r,X⟩);rcases G.ac a r with h5|h5;exact .inl (G.ti.OV o T h5 λq z=>g q ((F q).2 z) z.1);grind;exact .inl ⟨v',j,.inr ae,by grind,by grind⟩;have r:=G.hd q h;refine⟨(d.1.two _).2 ⟨U _ r.1,λp y _ e=>?_⟩,?_,by show q.2.1<=(dI t jk).base;rw[d.2.2.1,C.pw.ba];omega,r.2.2.2⟩;obtain⟨f,j,rfl,_⟩:=(F p).1 y;exact r.2.1 ⟨v,j,o,f,e⟩;(show¬Re (pt (dI t jk).dv.nw) (·∈x.b.cE.set k v') q.1;rw[d.2.1,mem];rintro⟨s,j,A|rfl,c,g⟩);rw[w s A.1] at c g;exact r.2.1 ⟨s,j,A.1,c,g⟩;rw[E] at c g;by_cases b:Kp i j;have:=(C.new j b c).1.fr;grind;rw[C.fV j b] at c g;exact r.2.1 ⟨v,j,o,c,g⟩;show(dI t jk).base<(dI t jk).cA;rw[d.2.2.1,d.2.2.2,C.pw.ba,C.pw.st];exact G.st
theorem afr{l r:List cy}{p:cy}(h:qd l p=some r)(q:cy):q∈r↔q∈l∨q=p:=by grind[qd,take_append_drop]
theorem Mj(b:Nat):∀(l:List cy)(s r:List cy×List cy),uD b l s=some r->∀q,(q∈r.1↔q∈s.1∨(q∈l/\q.2.1<=b))/\(q∈r.2↔q∈s.2∨(q∈l/\b<q.2.1))
 | [],s,r,h,q=>by cases h<;>grind
 |p::l,s,r,h,q=>by
  unfold uD at h;split at h
  . next hp=>
    have:=Mj b l _ r h q;simp only[fL,eV,ib] at this|-;rw[this.1,this.2];grind
  next hp=>
  split at h
  . cases h
  next m hm=>
  split at h
  . cases h
  . have:=Mj b l _ r h q;have a:=afr hm q;simp only[ib] at this|-;rw[this.1,this.2,a];grind
theorem aiA(b:dS)(id r:Nat)(cz:cy):eu (iy b id cz).cE r=eu b.cE r:=by unfold eu iy;rw[findIdx?_map];congr 1;grind
theorem Cx{l:List cR}{g:cR->cR}{k:Nat}(h:k<l.length):di (l.map g) k=g (di l k):=by grind[di]
theorem NM(id r:Nat)(cz:cy):eM (iy b id cz).cE r=eM b.cE r:=by
 unfold eM;rw[aiA];cases h:eu b.cE r with
 |none=>rfl
 |some i=>
  have e:(di (iy b id cz).cE i).cT=(di b.cE i).cT:=by grind[iy,Cx,lq]
  grind[aiA,iy,Cx,lq]
theorem Jp(a:Bu b.cE)(d:k<b.cE.length)(cz:cy)(y:cR):(iy b (di b.cE k).id cz).cE.set k y=b.cE.set k y:=by unfold iy;apply wm;intro j;simp only[z8,lV,ql];split;rfl;next hne=>cases h:b.cE[j]? with|none=>rfl|some s=>(obtain⟨c,g⟩:=mQ.1 h;have e:di b.cE j=s:=by grind[di]);simp only[Kb];rw[cM];intro f;refine hne (a.at d c ?_);exact a.inj (jO d).1 (jO c).1 (by rw[e,f])
theorem Good.adf(G:Good x)(f:v∈x.b.cE)(jA:v.cW=false){t:Pl}{top:cy}(l:i<64)(C:Ch x.s t v.cz top i iV)(o:Wr (λa=>x.s.mp a=1) x.s.dv t.dv):
 Wr (λa=>x.s.mp a=1) x.s.dv (tT v.id top iV {x with s:=t}).1.s.dv/\((tT v.id top iV {x with s:=t}).2=0->Good (tT v.id top iV {x with s:=t}).1):=by
 unfold tT AY;split;grind[x8]
 next h2=>
 unfold kf at h2|-;split at h2;simp at h2
 next k hk=>
 split at h2;simp at h2
 next d g hkill=>
 simp only[hk,hkill];rw[aiA] at hk;have c:=lq hk;have e:di x.b.cE k=v:=G.ti.id c.2.1 f c.2.2;have h:di (iy x.b v.id top).cE k= {v with cz:=top}:=by unfold iy;rw[Cx c.1,e,cL ae]
 rw[h,NM] at hkill;have m:=Mj _ _ _ _ hkill;have j:(iy x.b v.id top).cE.set k {di (iy x.b v.id top).cE k with cO:=d}=x.b.cE.set k {v with cz:=top,cO:=d}:=by have:=Jp G.inc c.1 top {v with cz:=top,cO:=d};grind
 have n:(dI t g).dv=t.dv:=oO g t;refine⟨by grind,λ_=>?_⟩;have:=G.ag6 f jA l C c.1 e (v':={v with cz:=top,cO:=d}) ⟨ae,ae,ae,ae,ae,ae⟩ ae (jk:=g) (λq=>(m q).1) (λq=>by grind);show Good {x with b:=⟨x.b.next,_⟩,s:=dI t g};rw[j];exact this
theorem Good.Q5(G:Good x){cC:fh}{i:Int}(h:(pT x.b cC i).2=0):(pT x.b cC i).1∈x.b.cE/\(pT x.b cC i).1.cW=false:=by
 unfold pT at*;cases e:dG cC with
 |none=>grind
 |some p=>
  rw[e] at h;simp only[Option.elim] at h|-;split at h;next e0=>rw[cL e0];unfold rN at*;simp only at h|-;split at h;simp at h;split at h;omega;split at h;simp at h;next h1 h2 h3=>rw[cM h1,cM h2,cM h3];simp only;unfold mF at*;obtain⟨jA,cW⟩:=p;simp only at e0;subst e0;rw[e] at h2|-;simp only[nI] at h2|-;cases hc:qC x.b.cE (0,jA) with|none=>grind|some k=>have a:=vG hc;have m:=(jO a.1).1;exact⟨m,(G.afp m a.2).1⟩
  omega
def Good.two(G:Good x)(a:v∈x.b.cE):∀k,k<9->pt x.s.dv.nw v.cz k≠cH->x.s.mp (pt x.s.dv.nw v.cz k).1≠1:=λk _ h=>by have:=G.tk _ ⟨v,k,a,h,ae⟩;omega
theorem Ue{x:GT}(G:Good x)(e:mG x.s.dv.nw)(f:gU x.s.cA)(cC:fh)(i:Int)(bs:cD)(d:∀y∈bs,y<256):GW x (dB x (nF cC i bs)).1:=by
 have g:Wr (λa=>x.s.mp a=1) x.s.dv (nF cC i bs x).1.s.dv/\((nF cC i bs x).2=0->Good (nF cC i bs x).1):=by
  unfold nF;split;next h=>exact⟨.refl _,λb=>absurd b h⟩
  next h=>
  split;exact bx;have v:=G.Q5 bG;have c:=Wm e f G.n.2 G.map (G.two v.1) (i:=i) d;unfold vC;split;next h=>exact⟨c.1.wr,λb=>by grind[x8]⟩
  next h=>exact G.adf v.1 v.2 cw (c.2 cw).2.2.1 c.1.wr
 grind[sF]
theorem Wp{x:GT}(G:Good x)(A:mG x.s.dv.nw)(B:gU x.s.cA)(cC:fh)(i:Int):GW x (dB x (sD cC i)).1:=by
 have C:Wr (λa=>x.s.mp a=1) x.s.dv (sD cC i x).1.s.dv/\((sD cC i x).2=0->Good (sD cC i x).1):=by
  unfold sD;split;next h=>exact⟨.refl _,λl=>absurd l h⟩
  next h=>
  have v:=G.Q5 bG;have c:=Q4 A B G.n.2 G.map (G.two v.1) (i:=i);unfold vC;split;next h=>exact⟨c.1.wr,λl=>by grind[x8]⟩
  next h1=>obtain⟨_,F,q|⟨m,w,n,p,_⟩⟩:=c.2 cw;exact G.adf v.1 v.2 cw q.1 c.1.wr;generalize gC x.s (pT x.b cC i).1.cz i=T at*;obtain⟨t,r,o,E⟩:=T;simp only at n p m w c|-;subst n p;unfold tT AY;split;(next h=>exact⟨c.1.wr,λl=>by grind[x8]⟩);next h2=>unfold kf at h2|-;split at h2;simp at h2;next k hk=>(simp only[hk,uD];rw[aiA] at hk;have f:=lq hk;have g:di x.b.cE k=(pT x.b cC i).1:=G.ti.id f.2.1 v.1 f.2.2;have u:di (iy x.b (pT x.b cC i).1.id (pT x.b cC i).1.cz).cE k=(pT x.b cC i).1:=by unfold iy;rw[Cx f.1,g,cL ae]);(have y:(iy x.b (pT x.b cC i).1.id (pT x.b cC i).1.cz).cE.set k {di (iy x.b (pT x.b cC i).1.id (pT x.b cC i).1.cz).cE k with cO:=(di (iy x.b (pT x.b cC i).1.id (pT x.b cC i).1.cz).cE k).cO}=x.b.cE:=by have a:=Jp G.inc f.1 (pT x.b cC i).1.cz (pT x.b cC i).1;rw[g] at a;rw[u];refine a.trans ?_;apply wm;intro j;rw[z8];split;(next e=>subst e;rw[cL f.1,(jO f.1).2,g]);rfl);(refine⟨c.1.wr,λ_=>?_⟩;have:=G.dev c.1.wr;show Good {x with b:=⟨x.b.next,_⟩,s:=t};rw[y];have z:t= {x.s with dv:=t.dv}:=by obtain⟨a,b,D,d⟩:=t;simp only at m;subst m;have:=c.1.st;have:=c.1.ba;grind);rw[z];exact this
 grind[sF]
theorem ag7{a b:cD}(h:a.Nodup)(g:∀n∈a,n∈b):a.length<=b.length:=by induction a generalizing b with|nil=>simp|cons x a ih=>rw[vP] at h;have:=ih (b:=b.erase x) h.2 λn c=>(mem_erase_of_ne (λe=>by grind)).2 (g n (jI _ c));grind
theorem uK.nodup(F:Bt n M){q:Nat}(w:uK M o s ss q)(c:M s):((s::ss).map cR.id).Nodup:=by induction w with|nil s=>simp|@cons s t l q h ho e w ih=>rw[xd,vP];refine⟨λf=>?_,ih h⟩;obtain⟨r,b,d⟩:=fM.1 f;have a:=((uK.cons h ho e w).T7 F c).1 r b;rw[F.id ((uK.cons h ho e w).mem r b).1 c d] at a;grind
theorem Good.ag8(G:Good x)(d:v∈x.b.cE)(jA:v.cW=false):∃ss q,sJ x.b.cE v.id=(ss.map cR.id,q)/\uK (·∈x.b.cE) v.id v ss q/\(∀t,t∈x.b.cE->t.id=q->q≠0->t.cG≠v.id):=by
 obtain⟨ss,q,e,a,f⟩:=G.way d jA;refine⟨ss,q,e,a,f.resolve_left λh=>?_⟩;have b:=ag7 (a.nodup G.vN d) (b:=x.b.cE.map cR.id) λn g=>by obtain⟨t,c,rfl⟩:=fM.1 g;refine fM.2 ⟨t,?_,ae⟩;rcases ib.1 c with rfl|c;exact d;exact(a.mem t c).1
 have:=G.pK;grind
theorem X1{l:List cR}(d:Bu l)(id:Nat):∀(ms b:cD)(r:List cR),x6 l id ms (l.map λt=>{t with cG:=if t.id∈b then id else t.cG})=some r->r=l.map (λt=>{t with cG:=if t.id∈b∨t.id∈ms then id else t.cG})/\∀t∈l,t.id∈ms->∀u∈l,u.cW=true->u.cG=id->u.name≠t.name
 | [],b,r,h=>by cases h<;>grind
 |m::ms,b,r,h=>by
  unfold x6 at h;split at h
  . cases h
  next j hj=>
  have p:=lq hj;split at h
  . cases h
  next hany=>
  have e:(l.map λt=>{t with cG:=if t.id∈b then id else t.cG}).set j {di (l.map λt=>{t with cG:=if t.id∈b then id else t.cG}) j with cG:=id}=l.map λt=>{t with cG:=if t.id∈b++[m] then id else t.cG}:=by
   rw[Cx p.1];apply wm;intro i;simp only[z8,ql,lV];split
   . next e=>subst e;rw[cL p.1,(jO p.1).2];simp[p.2.2]
   . next hne=>
     cases h:l[i]? with
     |none=>rfl
     |some s=>
      obtain⟨c,v⟩:=mQ.1 h;have e:di l i=s:=by grind[di]
      have:s.id≠m:=λk=>hne (d.at p.1 c (d.inj p.2.1 (jO c).1 iG));simp[this]
  rw[e] at h;have a:=X1 d id ms (b++[m]) r h;refine⟨by grind,λt g f u w n o q=>?_⟩;rcases ib.1 f with rfl|f
  . rw[d.inj p.2.1 g p.2.2] at hany
    grind[I3]
  grind
theorem GC(G:Good x){cC:fh}(d:¬(fI x.b cC).2≠0):∃v∈x.b.cE,∃q:cD,(fI x.b cC).1=⟨x.b.next,x.b.cE.map λt=>{t with cG:=if t.id∈q then v.id else t.cG}⟩/\(∀t∈x.b.cE,t.id∈q->t.cW=true)/\Bt x.b.next (·∈(fI x.b cC).1.cE)/\TI (pt x.s.dv.nw) x.s.cA (·∈(fI x.b cC).1.cE):=by
 unfold fI at d|-;split at d;grind[nt]
 next i c hi=>
 split at d;simp at d
 next o ho=>
 split at d;simp at d
 next r hr=>
 simp only[hi,ho,hr];have b:=yg G hi;have op:=lq ho;generalize hv:di x.b.cE i=v at*;generalize hx:di x.b.cE o=y at*;obtain⟨s1,Y,T,D,U⟩:=G.ag8 b.2.1 b.2.2;rw[T] at op;have E:y.cW=true:=by obtain⟨t,a,e,_⟩:=D.end;refine(G.vN.tH (s:=t) ?_ op.2.1 (op.2.2.trans e.symm)).1;rcases ib.1 a with rfl|a;exact b.2.1;exact(D.mem t a).1
 obtain⟨u,A,J,I⟩:=G.vN.own op.2.1 E;obtain⟨j,Z,X,z,K⟩:=G.ag8 A J;have V:y∈j:=by rcases ib.1 (z.all G.vN A K (λs h B=>G.ti.st h B) _ y (dK _) op.2.1 I.symm) with h|h<;>grind
 have p:∃H f,j=H++y::f/\wV x.b.cE y=(y::f).map cR.id:=by unfold wV Zp;rw[<-I,X];simp only;cases O:(j.map cR.id).findIdx? (λn=>decide (n=y.id)) with|none=>grind|some k=>(obtain⟨l,d,_⟩:=GV.1 O;have C:k<j.length:=by grind);have e:j[k]=y:=G.ti.id (z.mem _ (lU C)).1 op.2.1 iG;refine⟨j.take k,j.drop (k+1),?_,?_⟩;grind[getElem_cons_drop,take_append_drop];grind[map_drop,getElem_cons_drop]
 obtain⟨H,f,L,M⟩:=p;rw[M] at hr;have Q:(x.b.cE.map λt=>({t with cG:=if t.id∈([]:cD) then v.id else t.cG}:cR))=x.b.cE:=by simp
 have F:=X1 G.inc v.id ((y::f).map cR.id) [] r iG;have g:∀t∈y::f,t∈x.b.cE:=λt a=>(z.mem t iG).1;have w:∀t,t∈x.b.cE->(t.id∈(y::f).map cR.id↔t∈y::f):=λt a=>by constructor;intro h;obtain⟨R,l,d⟩:=fM.1 h;rw[<-G.ti.id (g R l) a d];exact l;grind
 have mem:(·∈r)=AsP (λt=>@ite _ (t∈y::f) (Classical.propDecidable _) v.id t.cG) (·∈x.b.cE):=by funext t;rw[F.1,fM];unfold AsP;apply propext;constructor;grind;grind
 refine⟨v,b.2.1,(y::f).map cR.id,by simp_all,λt a h=>?_,?_,?_⟩;have:=(w t a).1 h;rcases ib.1 this with rfl|h;exact E;exact((z.T7 G.vN A).1 t iG).1;show Bt _ (·∈r);rw[mem];refine G.vN.afn (λs h B=>G.ti.st h B) b.2.1 b.2.2 A J op.2.1 E D U op.2.2 (L▸z) K (λm p t a l d N=>F.2 m (g m p) ((w m (g m p)).2 p) t a l d N) _ (λt a=>cL a) (λt a=>cM a)
 show TI _ _ (·∈r);rw[mem];exact G.ti.ag4 _
theorem NN{x:GT}(G:Good x)(cC:fh):GW x (dB x (lQ cC)).1:=by
 refine sF G ?_ ?_<;>unfold lQ;split<;>exact .refl _;split;omega
 next h2=>
 intro _;obtain⟨v,i,c,e,_,vN,f⟩:=GC G h2;rw[e] at vN f|-;have g:∀a,Re (pt x.s.dv.nw) (·∈x.b.cE) a->Re (pt x.s.dv.nw) (·∈x.b.cE.map λt=>{t with cG:=if t.id∈c then v.id else t.cG}) a:=λa ⟨t,k,d,h⟩=>⟨_,k,fM.2 ⟨t,d,ae⟩,h⟩;show Good {x with b:=⟨x.b.next,_⟩,s:=x.s};refine G.leave (s:=x.s) (jk:=[]) ae ae ae (dK _) (.nil _ _) (G.inc.map λ_=>ae) bN vN (dK _) f (λt d=>?_) dU (λa h _=>g a h)
 grind
theorem GD(s:Pl)(i:Nat)(b:cD):PW (λa=>a=i/\s.mp a=2) s (dY s i b).1/\(dY s i b).1.mp=s.mp/\((dY s i b).2.2=0->s.mp i=2/\i<s.dv.n/\(dY s i b).2.1=(i,s.cA,j9 (oe b))/\(dY s i b).1.dv.nw=iQ s.dv.nw i (oe b))/\(s.dv.al->b.length<=128->s.mp i=2->i<1024->i<s.dv.n->(dY s i b).2.2=0):=by unfold dY;split;exact⟨.refl _,ae,by simp,cw⟩;split;grind[T6];next h=>exact⟨.refl _,ae,by simp,λ_ _ c d _=>absurd ⟨cw,cw,c⟩ h⟩
theorem Jq(dO:cD)(a:Pl×(List cy×Int))(b:List cy):gD dO a b=(match lZ (λi=>b.getD i cH) with|none=>if a.2.2≠0 then a else(a.1,([],51))|some sec=>gH dO a sec):=by grind[gD,gH]
theorem Mk{dO:cD}:∀(ps:List cD)(f d post:cD)(s:Pl)(b:List cy),d.length=b.length->f.length=ps.length->dO=d++(f++post)->f.Nodup->
 ((ps.foldl (gH dO) (s,(b,0))).2.2=0->(ps.foldl (gH dO) (s,(b,0))).2.1=b++zipWith (λa p=>(a,s.cA,j9 (oe p))) f ps/\PW (·∈f) s (ps.foldl (gH dO) (s,(b,0))).1/\(∀j(h:j<f.length)(A:j<ps.length),(ps.foldl (gH dO) (s,(b,0))).1.dv.nw f[j]=oe ps[j])/\∀a∈f,a<s.dv.n)/\
 (s.dv.al->(∀a∈f,s.mp a=2/\a<1024/\a<s.dv.n)->(∀p∈ps,p.length<=128)->(ps.foldl (gH dO) (s,(b,0))).2.2=0)
 | [],f,d,post,s,b,h1,h2,h3,h4=>by
  have:f=[]:=by grind
  subst this;exact⟨λ_=>⟨by simp,.refl _,λj h=>by simp at h,by simp⟩,λ_ _ _=>ae⟩
 |p::ps,[],d,post,s,b,h1,h2,h3,h4=>by simp at h2
 |p::ps,a::f,d,post,s,b,h1,h2,h3,h4=>by
  have z:dO.getD b.length 0=a:=by grind
  have g:=GD s a p;have st:gH dO (s,(b,0)) p=if(dY s a p).2.2≠0 then((dY s a p).1,([],(dY s a p).2.2)) else((dY s a p).1,(b++[(dY s a p).2.1],0)):=by
   grind[gH]
  have k:∀(l:List cD)(x:Pl)c,c≠0->l.foldl (gH dO) (x,([],c))=(x,([],c)):=λl x c hc=>by
   induction l<;>grind[F8]
  rw[ym,st];rw[vP] at h4;by_cases e:(dY s a p).2.2=0
  . rw[cM cw];have w:=g.2.2.1 e;obtain⟨r,t⟩:=Mk (dO:=dO) ps f (d++[a]) post (dY s a p).1 (b++[(dY s a p).2.1]) (by simp[h1]) iG (by simp[h3]) h4.2;refine⟨λh=>?_,λm y n=>?_⟩
    . obtain⟨u,i,C,v⟩:=r h;refine⟨?_,(g.1.mono λc hc=>by grind).trans (i.mono λc hc=>jI _ hc),?_,?_⟩
      . rw[u,w.2.2.1,g.1.st];simp
      . intro j B h6;cases j with
        |zero=>
         simp only[getElem_cons_zero];rw[i.nw a h4.1,w.2.2.2];simp[iQ]
        |succ j=>grind
      . intro c hc;rcases ib.1 hc with rfl|hc
        . exact w.2.1
        . have:=v c hc;rw[g.1.wr.n] at this;exact this
    . refine t (g.1.wr.al m) (λc hc=>?_) λq o=>n q (jI _ o);rw[g.2.1,g.1.wr.n];grind
  grind
def Ee(p:List cy):cD:=(lZ λi=>p.getD i cH).getD []
theorem Hx{dO:cD}:∀(ps:List (List cy))(a:Pl×(List cy×Int)),((ps.foldl (gD dO) a).2.2=0∨∀p∈ps,(lZ λi=>p.getD i cH).isSome=true)->ps.foldl (gD dO) a=(ps.map Ee).foldl (gH dO) a/\(a.2.2=0->(ps.foldl (gD dO) a).2.2=0->∀p∈ps,(lZ λi=>p.getD i cH)=some (Ee p))
 | [],a,_=>⟨ae,by simp⟩
 |p::ps,a,h=>by
  have d:∀(l:List (List cy))(a:Pl×(List cy×Int)),a.2.2≠0->l.foldl (gD dO) a=a:=λl a hc=>by
   induction l with
   |nil=>rfl
   |cons q l ih=>simp_all[gD]
  have c:∀(l:List cD)(a:Pl×(List cy×Int)),a.2.2≠0->l.foldl (gH dO) a=a:=λl a hc=>by
   induction l with
   |nil=>rfl
   |cons q l ih=>simp_all[gH]
  by_cases j:a.2.2=0
  . rw[ym,xd,ym] at*;have b:=Jq dO a p;cases e:lZ (λi=>p.getD i cH) with
    |none=>
     simp_all
    |some sec=>
     rw[e] at b;simp only at b;have f:Ee p=sec:=by grind[Ee]
     rw[b] at h|-;rw[f];obtain⟨k,m⟩:=Hx ps (gH dO a sec) (h.imp id λh q g=>h q (jI _ g))
     grind
  grind
def nD{α:Type}(n:Nat):Nat->List α->List (List α)
 |0,_=> []
 |k+1,l=>l.take n::nD n k (l.drop n)
theorem Hy{α:Type}(n:Nat):∀(k:Nat)(l:List α),(finRange k).map (λj=>(l.drop (j.val*n)).take n)=nD n k l
 |0,_=>rfl
 |k+1,l=>by
  rw[finRange_succ,xd,sK,nD,<-Hy n k (l.drop n)];congr 1
  . simp
  . apply map_congr_left;intro j _;simp only[Function.comp,drop_drop,Fin.val_succ];grind
theorem sH{α:Type}(n:Nat):∀(k:Nat)(l:List α),(nD n k l).length=k
 |0,_=>rfl
 |k+1,l=>by rw[nD,kr,sH]
def tI(D:Nat->cD)(st:Nat)(b:cD):List cy:=b.map λa=>(a,st,j9 (D a))
def Lv(D:Nat->cD)(n:Nat):List cy->List cy->Prop
 | [],low=>low=[]
 |q::high,low=>low≠ []/\q≠cH/\GN D n q/\nd D q=(λi=>(low.take 8).getD i cH)/\Lv D n high (low.drop 8)
theorem X2(c:Nat):∀(d a b:List cy)(s:Pl),s.dv.cO=false->(∀q∈a,q≠cH)->Lv s.dv.nw s.dv.n d a->b.length+a.length=c->∃t,d.foldl (fH c) (s,(b,0))=(t,(b++a,0))/\PW (λ_=>False) s t/\t.mp=s.mp/\t.dv.cO=false
 | [],a,b,s,hd,_,h,_=>by cases h;exact⟨s,by simp,.refl _,ae,hd⟩
 |q::d,a,b,s,hd,hn,h,hw=>by
  obtain⟨o,r,g,i,j⟩:=h;have x:=Q2 hd g;have e:=Dp (A:=λ_=>False) s q;have f:(cQ s q).1.dv.cO=false:=by grind[cQ,fD,fZ,eG]
  have v:min 8 (c-b.length)=(a.take 8).length:=by grind
  have u:yJ (nd s.dv.nw q) (a.take 8).length=true:=by
   unfold yJ;grind
  have y:(ly (nd s.dv.nw q)).take (a.take 8).length=a.take 8:=by
   rw[i];unfold ly;apply wm;grind
  have st:fH c (s,(b,0)) q=((cQ s q).1,(b++a.take 8,0)):=by
   simp_all[fH]
  rw[ym,st];obtain⟨t,w,l,m,n⟩:=X2 c d (a.drop 8) (b++a.take 8) (cQ s q).1 f (λp k=>hn p (mR k)) (by rw[e.1.nn,e.1.wr.n];exact j) iG;exact⟨t,by simp_all,e.1.trans l,m.trans e.2,n⟩
theorem Lv.congr:∀{a b:List cy},Lv D n a b->(∀q∈a,E q.1=D q.1)->Lv E n a b
 | [],b,h,_=>h
 |q::a,b,⟨h1,h2,h3,h4,h5⟩,e=>by
  have c:=e q lW;refine⟨h1,h2,⟨?_,λ_=>by rw[c];exact h3.2 h2⟩,by grind[vE],h5.congr λp d=>e p (jI _ d)⟩;rcases h3.1 with h|h<;>grind[GP]
theorem af4{D:Nat->cD}{n st:Nat}(f:1<=st):∀(d:cD)(b:List cy),(∀q∈b,cY q)->b.length<=8*d.length->8*d.length<b.length+8->(∀a∈d,a<n)->(∀j(h:j<d.length)(l:j<(nD 8 d.length b).length),(lZ λi=>(nD 8 d.length b)[j].getD i cH)=some (D d[j]))->Lv D n (tI D st d) b
 | [],b,_,h,_,_,_=>(by simp_all:b=[])
 |a::d,b,hp,h1,h2,h3,h4=>by
  have e:=h4 0 dU (by simp[nD]);simp only[getElem_cons_zero,nD,kr] at e;have k:((a,st,j9 (D a)):cy)≠cH:=λe=>by simp_all[cH]
  have r:=(Jo e (λi _=>by
   grind[dA]) (λi o=>by
   grind)).2
  have p:0<b.length:=by grind
  refine⟨λh=>by grind,k,⟨.inr ⟨h3 a lW,ae⟩,λ_=>by rw[r];rfl⟩,by simp_all[nd],?_⟩;refine af4 f d (b.drop 8) (λq g=>hp q (mR g)) iG iG (λc hc=>h3 c (jI _ hc)) λj m h6=>?_;have:=h4 (j+1) iG (by grind[sH])
  grind[nD]
theorem Q7{D:Nat->cD}{st:Nat}:∀(b:cD)(ps:List cD),b.length=ps.length->(∀j(h:j<b.length)(f:j<ps.length),D b[j]=oe ps[j])->zipWith (λa p=>(a,st,j9 (oe p))) b ps=tI D st b
 | [],_,_,_=>by rfl
 |a::b,[],h,_=>by simp at h
 |a::b,p::ps,h,g=>by
  have c:=g 0 dU dU;simp only[getElem_cons_zero] at c;have:=Q7 (D:=D) (st:=st) b ps bG λj d e=>by have:=g (j+1) (by simpa using d) (by simpa using e);simpa using this
  unfold tI at*;simp[c,this]
theorem adl(l:Nat):l<=8*eJ l 8/\8*eJ l 8<l+8:=by grind[eJ]
theorem Wq{s:Pl}(C:1<=s.cA){b post:cD}(D:b.length=eJ ps.length 8)(B:b.Nodup)(c:∀q∈ps,cY q):
 ((dW s ps (b++post)).2.2=0->(dW s ps (b++post)).2.1=tI (dW s ps (b++post)).1.dv.nw s.cA b/\PW (·∈b) s (dW s ps (b++post)).1/\Lv (dW s ps (b++post)).1.dv.nw s.dv.n (dW s ps (b++post)).2.1 ps/\(∀a∈b,iY ((dW s ps (b++post)).1.dv.nw a))/\∀a∈b,a<s.dv.n)/\
 (s.dv.al->(∀a∈b,s.mp a=2/\a<1024/\a<s.dv.n)->(∀q∈ps,fY q=true)->(dW s ps (b++post)).2.2=0):=by
 have y:dW s ps (b++post)=(nD 8 b.length ps).foldl (gD (b++post)) (s,([],0)):=by unfold dW;rw[D,<-Hy];rfl
 rw[y];have d:∀p∈nD 8 b.length ps,(lZ λi=>p.getD i cH).isSome=true->iY (Ee p):=λp _ h=>by grind[Ee,lZ,pM,lH,oE,iY]
 have u:=Mk (dO:=b++post) ((nD 8 b.length ps).map Ee) b [] post s [] ae (by simp[sH]) dU B;refine⟨λh=>?_,λv w G=>?_⟩
 . (have t:=Hx (nD 8 b.length ps) (s,([],0)) (.inl h);have ns:=t.2 ae h;rw[t.1] at h|-;obtain⟨o,E,r,F⟩:=u.1 h;have e:∀j(h:j<b.length)(g:j<((nD 8 b.length ps).map Ee).length),(foldl (gH (b++post)) (s,([],0)) ((nD 8 b.length ps).map Ee)).1.dv.nw b[j]=((nD 8 b.length ps).map Ee)[j]:=λj h g=>by rw[r j h g,getElem_map];have A:=lU (l:=nD 8 b.length ps) (n:=j) iG;exact Hf (d _ A iG).1);have x:=Q7 (st:=s.cA) b _ (by simp[sH]) r;rw[ot] at o;refine⟨o.trans x,E,?_,λa z=>?_,F⟩;(case refine_2=>obtain⟨j,H,rfl⟩:=yk z;grind[sH]);grind[adl,af4]
 (have f:∀p∈nD 8 b.length ps,(lZ λi=>p.getD i cH).isSome=true:=by(have:∀(k:Nat)(l:List cy),(∀q∈l,fY q=true)->∀p∈nD 8 k l,(lZ λi=>p.getD i cH).isSome=true:=by intro k;induction k with|zero=>intro l _ p c;cases c|succ k ih=>intro l I p c;rcases ib.1 c with rfl|c;(have:JE (λi=>(l.take 8).getD i cH) 8=true:=by grind[JE,fY]);simp_all[lZ];grind);grind);rw[(Hx (nD 8 b.length ps) (s,([],0)) (.inr f)).1];refine u.2 v w λp c=>?_;obtain⟨q,m,rfl⟩:=fM.1 c;rw[(d q m (f q m)).1];omega
inductive Path(D:Nat->cD)(n:Nat):List cy->List (List cy)->List cy->Prop
 |nil (h:List cy):Path D n h [] h
 |cons {h m l:List cy} {ms:List (List cy)} (a:Lv D n h m) (b:Path D n m ms l):Path D n h (m::ms) l
theorem Path.snoc{m l:List cy}(p:Path D n h ms m)(a:Lv D n m l):Path D n h (ms++[l]) l:=by induction p with|nil h=>exact .cons a (.nil l)|cons b _ ih=>exact .cons b (ih a)
theorem OX:∀(ms:List (List cy))(c e d:List cy)(s:Pl),s.dv.cO=false->Path s.dv.nw s.dv.n c ms e->(∀m∈ms,∀q∈m,q≠cH)->∃t,(ms.map length).foldl iM (s,(c,d,0))=(t,(e,d++ms.flatten,0))/\PW (λ_=>False) s t/\t.mp=s.mp/\t.dv.cO=false
 | [],c,e,d,s,hd,p,_=>by cases p;exact⟨s,by simp,.refl _,ae,hd⟩
 |m::ms,c,e,d,s,hd,p,hn=>by
  cases p with
  |cons a b=>
   obtain⟨t,o,f,k,l⟩:=X2 m.length c m [] s hd (hn m lW) a dU;have st:iM (s,(c,d,0)) m.length=(t,(m,d++m,0)):=by
    grind[iM,fj]
   obtain⟨u,n,h,i,j⟩:=OX ms m e (d++m) t l (by rw[f.nn,f.wr.n];exact b) (λx g=>hn x (jI _ g));exact⟨u,by grind,f.trans h,i.trans k,j⟩
def af5{s t:Pl}(p:PW A s t)(h:mG s.dv.nw)(g:∀a,A a->iY (t.dv.nw a)):mG t.dv.nw:=λa=>by by_cases e:A a;exact g a e;rw[p.nw a e];exact h a
theorem OY(D:Nat->cD)(st:Nat)(a:cD):(tI D st a).map Prod.fst=a:=by unfold tI;rw[sK];exact map_id'' (λ_=>ae) _
theorem GF{D:Nat->cD}{st:Nat}{b:cD}(h:mG D)(d:gU st)(f:∀a∈b,a<1024):∀q∈tI D st b,cY q:=by intro q c;obtain⟨a,e,rfl⟩:=fM.1 c;exact⟨by grind,d,BR _ (h a).2⟩
theorem J9{α:Type}{f:Pl×(List cy×Int)->α->Pl×(List cy×Int)}(h:∀a x,(f a x).1.mp=a.1.mp):∀(l:List α)(a:Pl×(List cy×Int)),(l.foldl f a).1.mp=a.1.mp
 | [],_=>rfl
 |x::l,a=>(J9 h l (f a x)).trans (h a x)
theorem Fb(dO:cD)(a:Pl×(List cy×Int))(b:cD):(gH dO a b).1.mp=a.1.mp:=by grind[GD,gH]
theorem Uf(dO:cD)(a:Pl×(List cy×Int))(b:List cy):(gD dO a b).1.mp=a.1.mp:=by grind[Jq,Fb]
theorem Ug(s:Pl)(ps:List cy)(dO:cD):(dW s ps dO).1.mp=s.mp:=J9 (Uf dO) _ _
theorem GH{f:Nat}{s:Pl}{c:Int}{dO:cD}{L:List cy}(h:c≠0):iE f (s,(L,c)) dO=(s,(L,c)):=by cases f with|zero=>rfl|succ f=>simp_all[iE]
structure af6(D:Nat->cD)(n st:Nat)(top:cy)(ms:List (List cy))(L:List cy)(ats:cD)(ls:cD):Prop where
 path:Path D n [top] ms L
 len:([top]::ms).map length=ls.reverse
 perm:(([top]::ms).flatten.map Prod.fst).Perm (ats++L.map Prod.fst)
 st:∀m∈ [top]::ms,∀q∈m,q∈L∨(q.2.1=st/\q≠cH)
 parts:cY top
theorem OZ:∀(f:Nat)(s:Pl)(L:List cy)(ats:cD),1<=s.cA->gU s.cA->mG s.dv.nw->s.dv.n<=1024->(∀q∈L,cY q)->1<=L.length->L.length<=8^f->ats.length+L.length=(iT f L.length).sum->ats.Nodup->
 ((iE f (s,(L,0)) ats).2.2=0->∃top ms,(iE f (s,(L,0)) ats).2.1=[top]/\af6 (iE f (s,(L,0)) ats).1.dv.nw s.dv.n s.cA top ms L ats (iT f L.length)/\PW (·∈ats) s (iE f (s,(L,0)) ats).1/\mG (iE f (s,(L,0)) ats).1.dv.nw)/\
 (s.dv.al->(∀a∈ats,s.mp a=2/\4<=a/\a<s.dv.n)->s.cA<=281474976710655->(∀q∈L,fY q=true)->(iE f (s,(L,0)) ats).2.2=0):=by
 have o:∀(g:Nat)(s:Pl)(L:List cy)(ats:cD),mG s.dv.nw->(∀q∈L,cY q)->L.length=1->ats.length+L.length=(iT g L.length).sum->∃top ms,L=[top]/\af6 s.dv.nw s.dv.n s.cA top ms L ats (iT g L.length)/\PW (·∈ats) s s/\mG s.dv.nw:=by
  intro g s L ats j l u v;have e:iT g 1=[1]:=by cases g<;>rfl
  match L,u with
  | [top],_=>
   simp only[length_singleton,e,sum_singleton] at v;have:ats=[]:=wj cw;subst this;exact⟨top,[],ae,⟨.nil _,by simp[e],by simp,λm k q n=>.inl iG,l top lW⟩,.refl _,j⟩
 intro f;induction f with|zero=>intro s L ats _ _ j _ l u v p _;obtain⟨top,ms,t,d⟩:=o 0 s L ats j l cw p;exact⟨λ_=>⟨top,ms,t,d⟩,λ_ _ _ _=>ae⟩|succ f ih=>intro s L ats B O j M l u v p I;by_cases J:1<L.length;(have e:iE (f+1) (s,(L,0)) ats=iE f (dW s L ats) (ats.drop (dW s L ats).2.1.length):=by rw[iE];grind);(have z:iT (f+1) L.length=L.length::iT f ((L.length+7)/8):=by rw[iT,cL J]);(have hh:=rO f ((L.length+7)/8);rw[z,sum_cons] at p;have pn:eJ L.length 8=(L.length+7)/8:=by rfl);have y:ats=ats.take ((L.length+7)/8)++ats.drop ((L.length+7)/8):=(zZ _ _).symm;have i:=I;rw[y,xj] at i;have ns:=Wq B (post:=ats.drop ((L.length+7)/8)) (by grind) i.1 l;rw[<-y] at ns;rw[e];have X0:=Ug s L ats;generalize dW s L ats=N at*;obtain⟨V,A,c⟩:=N;simp only at ns X0|-;generalize hk1:(L.length+7)/8=K at*;have Y:K<=8^f:=cw;by_cases hc:c=0;(subst hc;obtain⟨x,b,U,X,lt⟩:=ns.1 ae;have T:A.length=K:=by grind[tI]);have w:=af5 b j X;(have H:A.map Prod.fst=ats.take K:=by grind[OY]);obtain⟨C,Q⟩:=ih V A (ats.drop K) (by rw[b.st];exact B) (by rw[b.st];exact O) w (by rw[b.wr.n];exact M) (by grind[GF]) cw cw iG i.2.1;rw[T] at C|-;refine⟨λh=>?_,λE F G Z=>Q (b.wr.al E) (λa r=>?_) (by rw[b.st];exact G) ?_⟩;obtain⟨top,ms,t,d,D,R⟩:=C h;rw[b.wr.n,b.st] at d;refine⟨top,ms++[L],t,⟨d.path.snoc (U.congr λq n=>D.nw _ λh=>?_),?_,?_,?_,d.parts⟩,(b.mono λa r=>lu r).trans (D.mono (λa h=>mR h)),R⟩;grind;rw[z,reverse_cons,<-d.len];simp;have:=d.perm;grind;intro m k q n;rw[<-sL,fL] at k;rcases k with k|k;rcases d.st m k q n with h|h;rw[x] at h;obtain⟨a,_,rfl⟩:=fM.1 h;exact .inr ⟨ae,λe=>by have:=fK (·.2.1) e;grind[cH]⟩;grind;grind;rw[X0,b.wr.n];grind;intro q n;rw[x] at n;obtain⟨a,r,rfl⟩:=fM.1 n;have:=F a (lu r);unfold fY;grind;grind[GH];(obtain⟨top,ms,t,d⟩:=o (f+1) s L ats j l cw p;have e:iE (f+1) (s,(L,0)) ats=(s,(L,0)):=by simp_all[iE]);grind
theorem O0:∀(d:cD)(st:Nat)(b:cD)(D:Nat->cD)(s:Pl),1<=st->s.dv.cO=false->(∀a∈d,a<s.dv.n/\s.dv.nw a=D a)->∃t,(tI D st d).foldl jw (s,(b,0))=(t,(b++d.flatMap D,0))/\PW (λ_=>False) s t/\t.mp=s.mp/\t.dv.cO=false
 | [],st,b,D,s,_,hd,_=>⟨s,by simp[tI],.refl _,ae,hd⟩
 |a::d,st,b,D,s,h0,hd,h=>by
  have i:=h a lW;have n:((a,st,j9 (D a)):cy)≠cH:=λe=>by simp_all[cH]
  have g:=Wl (q:=(a,st,j9 (D a))) hd (.inr ⟨i.1,by rw[i.2]⟩);have f:=Q1 (A:=λ_=>False) s (a,st,j9 (D a));have k:(fD s (a,st,j9 (D a))).1.dv.cO=false:=by grind[fD,fZ,eG]
  have e:jw (s,(b,0)) (a,st,j9 (D a))=((fD s (a,st,j9 (D a))).1,(b++D a,0)):=by
   simp_all[jw,Jn]
  obtain⟨t,m,l,j⟩:=O0 d st (b++D a) D (fD s (a,st,j9 (D a))).1 h0 k λc hc=>by
   rw[f.1.wr.n,f.1.nn];grind
  refine⟨t,?_,f.1.trans l,j.1.trans f.2,j.2⟩
  grind[tI]
theorem O1:∀(k:Nat)(bs:cD),bs.length<=128*k->128*k<bs.length+128->(nD 128 k bs).flatMap oe=bs++replicate (128*k-bs.length) 0
 |0,bs,h,_=>by
  grind[nD]
 |k+1,bs,h1,h2=>by
  rw[nD,zY];by_cases h:k=0
  . subst h;have e:bs.take 128=bs:=nz cw;rw[nD,e,flatMap_nil,vd];rfl
  . have:=O1 k (bs.drop 128) (by rw[r8];omega) (by rw[r8];omega);rw[this,Hf bf,<-wh,zZ,r8];congr 2;omega
structure Cy(D:Nat->cD)(n st:Nat)(cz:cy)(bs:cD)(all:List cy)(ats:cD):Prop where
 load:∀u:Pl,u.dv.cO=false->u.dv.n=n->(∀a∈ats,u.dv.nw a=D a)->∃t,dP u cz (bs.length:Nat)=(t,(bs,all,0))/\PW (λ_=>False) u t/\t.mp=u.mp/\t.dv.cO=false
 perm:(all.map Prod.fst).Perm ats
 st:∀q∈all,q.2.1=st/\q≠cH
 top:cz∈all
 parts:cY cz
def adm:∀k:Fin 513,iT 20 k=iT 10 k:=by decide+kernel
theorem Path.congr{l:List cy}(p:Path D n h ms l)(e:∀m∈h::ms,m≠l->∀q∈m,E q.1=D q.1)(c:∀q∈l,E q.1=D q.1):Path E n h ms l:=by induction p with|nil h=>exact .nil h|@cons h m l ms a b ih=>refine .cons (a.congr λq f=>?_) (ih (λx d=>e x (jI _ d)) c);grind
theorem Dr{s:Pl}(hs:1<=s.cA)(hu:gU s.cA)(hd:mG s.dv.nw)(hn:s.dv.n<=1024)(hb:∀x∈bs,x<256)(nd:ats.Nodup):
 ((fx s bs ats).2.2=0->1<=bs.length/\PW (·∈ats) s (fx s bs ats).1/\mG (fx s bs ats).1.dv.nw/\∃all,Cy (fx s bs ats).1.dv.nw s.dv.n s.cA (fx s bs ats).2.1 bs all ats)/\(fx s bs ats).1.mp=s.mp/\
 (s.dv.al->(∀a∈ats,s.mp a=2/\4<=a/\a<s.dv.n)->s.cA<=281474976710655->1<=bs.length->bs.length<=65535->ats.length=jn (bs.length:Nat)->(fx s bs ats).2.2=0):=by
 have g:(fx s bs ats).1.mp=s.mp:=by
  have lm:∀(f:Nat)(a:Pl×(List cy×Int))(l:cD),(iE f a l).1.mp=a.1.mp:=by intro f;induction f<;>grind[iE,Ug]
  unfold fx;split;rfl;simp only;split<;>exact(lm _ _ _).trans (J9 (Fb ats) _ _)
 refine⟨?_,g,?_⟩<;>clear g
 all_goals
  by_cases hc:jn (bs.length:Nat)=0∨ats.length≠jn (bs.length:Nat)
 simp_all[fx];rotate_left;(intro _ _ _ h1 h2 h3;exfalso;have h4:=rO 10 ((bs.length+127)/128);have:jn (bs.length:Nat)=(iT 10 ((bs.length+127)/128)).sum:=by unfold jn jV;grind);omega;rotate_left
 all_goals
  have I:1<=bs.length/\bs.length<=65535:=by
   apply yQ;intro h;apply hc;left;unfold jn jV;grind
  have b3:jn (bs.length:Nat)=(iT 10 ((bs.length+127)/128)).sum:=by
   unfold jn jV;grind
  have a9:ats.length=(iT 10 ((bs.length+127)/128)).sum:=cw;have ek:eJ bs.length 128=(bs.length+127)/128:=by rfl
  have b2:=rO 10 ((bs.length+127)/128);have H:iT 20 ((bs.length+127)/128)=iT 10 ((bs.length+127)/128):=adm ⟨(bs.length+127)/128,cw⟩;have J:jV (bs.length:Nat)=iT 10 ((bs.length+127)/128):=by unfold jV;grind
  generalize hK:(bs.length+127)/128=K at*;have ea:ats=ats.take K++ats.drop K:=(zZ _ _).symm;have hz:(ats.take K).length=K:=by grind
  have i:=nd;rw[ea,xj] at i;have et:gh s bs ats=(nD 128 K bs).foldl (gH ats) (s,([],0)):=by
   unfold gh;rw[<-Hy,ek];rfl
  have y:=Mk (dO:=ats) (nD 128 K bs) (ats.take K) [] (ats.drop K) s [] ae (by rw[hz,sH]) ea i.1;rw[<-et] at y;have cl:∀p∈nD 128 K bs,p.length<=128/\∀x∈p,x<256:=by
   have:∀(k:Nat)(l:cD),(∀x∈l,x<256)->∀p∈nD 128 k l,p.length<=128/\∀x∈p,x<256:=by
    intro k
    induction k with
    |zero=>grind[nD]
    |succ k ih=>
     intro l I p z;rcases ib.1 z with rfl|z
     . grind
     . exact ih _ (λx hx=>I x (mR hx)) p z
   exact this K bs hb
  unfold fx;rw[cM hc];generalize gh s bs ats=T at*;obtain⟨d,L,c⟩:=T;simp only at y|-;have lp:c=0->1<=d.cA/\gU d.cA/\mG d.dv.nw/\d.dv.n<=1024/\(∀q∈L,cY q)/\L=tI d.dv.nw s.cA (ats.take K)/\L.length=K/\(ats.drop K).length+L.length=(iT 20 L.length).sum/\d.cA=s.cA:=λr=>by
   obtain⟨k1,n,k3,k4⟩:=y.1 r;have G:L=tI d.dv.nw s.cA (ats.take K):=by grind[Q7,sH]
   have lL:L.length=K:=by grind[tI]
   have Q:mG d.dv.nw:=af5 n hd λa v=>by
    obtain⟨j,hj,rfl⟩:=yk v
    grind[Fz]
   refine⟨by rw[n.st];exact hs,by rw[n.st];exact hu,Q,by rw[n.wr.n];exact hn,?_,G,lL,?_,n.st⟩
   . grind[GF]
   grind
 by_cases r:c=0;subst r;obtain⟨U,V,Y,Z,p5,p6,p7,p8,p9⟩:=lp ae;obtain⟨k1,n,k3,k4⟩:=y.1 ae;have E:=(OZ 20 d L (ats.drop K) U V Y Z p5 cw cw p8 i.2.1).1;rw[p7] at E|-;generalize iE 20 (d,(L,0)) (ats.drop K)=R at*;obtain⟨s2,X,c2⟩:=R;simp only at E|-;split;grind;(next h=>(intro _;obtain⟨top,ms,G,B,q1,q2⟩:=E cw;subst G;rw[p9,n.wr.n,H] at B;have o:∀a∈ats.take K,a∈ats:=λa h=>lu h;have D:∀a∈ats.drop K,a∈ats:=λa h=>mR h;have b1:L.map Prod.fst=ats.take K:=by grind[OY]);(have F:∀q∈L,q.2.1=s.cA/\q≠cH:=λq b=>by rw[p6] at b;obtain⟨a,_,rfl⟩:=fM.1 b;exact⟨ae,λe=>by have:=fK (·.2.1) e;grind[cH]⟩);(have st:∀m∈ [top]::ms,∀q∈m,q.2.1=s.cA/\q≠cH:=λm g q b=>(B.st m g q b).elim (F q) id;have C:(([top]::ms).flatten.map Prod.fst).Perm ats:=by refine B.perm.trans ?_;grind);have N:∀m∈ [top]::ms,∀q∈m,q.1∈ats:=λm g q b=>C.mem_iff.1 (fM.2 ⟨q,List.mem_flatten.2 ⟨m,g,b⟩,ae⟩);refine⟨I.1,(n.mono o).trans (q1.mono D),q2,([top]::ms).flatten,⟨λu M A w=>?_,C,λq b=>?_,by simp,B.parts⟩⟩;(have a7:Path u.dv.nw u.dv.n [top] ms L:=by rw[A];exact B.path.congr (λm g _ q b=>w _ (N m g q b)) λq b=>w _ (o _ iG));(obtain⟨t,j1,O,j3,j4⟩:=OX ms [top] L [top] u M a7 λm g q b=>(st m (jI _ g) q b).2;obtain⟨t2,j5,j6,j7⟩:=O0 (ats.take K) s.cA [] d.dv.nw t hs j4 λa v=>by rw[O.wr.n,O.nn,A,w a (o a v),q1.nw a λh=>i.2.2 a v a h ae];grind);(have dn:qG (bs.length:Nat)=ms.map length:=by unfold qG;rw[J,<-tail_reverse,<-B.len];rfl);(have a8:(ats.take K).flatMap d.dv.nw=bs++replicate (128*K-bs.length) 0:=by rw[<-O1 K bs cw cw,flatMap_def,flatMap_def];congr 1;apply ext_getElem;grind[sH];grind);(refine⟨t2,?_,O.trans j6,j7.1.trans j3,j7.2⟩;have tx:oM t L=(t2,(bs++replicate (128*K-bs.length) 0,0)):=by grind[oM]);(have ld:eo t L (bs.length:Int).toNat=(t2,(bs,0)):=by unfold eo;rw[tx];simp);(show dP u top (bs.length:Nat)=_;unfold dP;rw[cM iG];simp only[dn,j1,ne_eq,vQ,lE,ld,flatten_cons]);obtain⟨m,g,b⟩:=List.mem_flatten.1 b;grind);rw[GH r];grind;(intro a1 a2 a3 a4 a5 a6;have c0:c=0:=y.2 a1 (λa v=>by grind) λp z=>(cl p z).1;subst c0;obtain⟨U,V,Y,Z,p5,p6,p7,p8,p9⟩:=lp ae;obtain⟨k1,n,k3,k4⟩:=y.1 ae;have X0:d.mp=s.mp:=by grind[J9,Fb]);(have E:=(OZ 20 d L (ats.drop K) U V Y Z p5 cw cw p8 i.2.1).2 (n.wr.al a1) (λa v=>by rw[X0,n.wr.n];grind) cw λq b=>by rw[p6] at b;obtain⟨a,v,rfl⟩:=fM.1 b;have:=a2 a (lu v);unfold fY;grind);grind
theorem O2(m:Nat->Nat):∀k,k<=eF m->(il m k).1.length=k/\(il m k).1.Nodup/\(∀a∈(il m k).1,m a=1)/\∀a,(a∈(il m k).1->(il m k).2 a=2)/\(a∉(il m k).1->(il m k).2 a=m a):=by
 intro k
 induction k with
 |zero=>intro _;exact⟨ae,nodup_nil,λa h=>absurd h iS,λa=>⟨λh=>absurd h iS,λ_=>ae⟩⟩
 |succ k ih=>
  intro h;obtain⟨g,j,l,c⟩:=ih cw;have hc:=(yv m (k:=k) cw).1;obtain⟨i,b⟩:=EC (st:=(il m k).2) cw;have d:=(oY b).2.1;have f:i∉(il m k).1:=λe=>by grind
  rw[(c i).2 f] at d;rw[Ap m b];grind[jP]
def zU(c:cy)(a:Nat)(d:cy)(b:Nat):cD:=(gK c++pE 4 a)++(gK d++pE 4 b)
theorem Ws{a b:cy}{c d:Nat}{t:cD}(h:zh a c b d=some t):fY a=true/\fY b=true/\t=zU a c b d:=by grind[zh,oN,fY,zU]
def X3(c:cy)(a:Nat)(d:cy)(b:Nat):(zU c a d b).length=40:=by rfl
theorem ag9(d:cy)(b:Nat)(e:cy)(c:Nat):∀x∈zU d b e c,x<256:=by unfold zU;intro x a;simp only[fL] at a;rcases a with(h|h)|h|h;exact oE _ x h;exact xt _ _ x h;exact oE _ x h;exact xt _ _ x h
theorem aha{l:List km}{b:List Int}(h:oa l=some b):∀x∈pU b,x<256:=by
 unfold oa at h;split at h;next hc=>cases h;intro x c;unfold pU at c;obtain⟨y,a,rfl⟩:=fM.1 c;obtain⟨m,d,a⟩:=By.1 a;have:=qk.1 hc.2 m d;unfold UF jC at this;unfold rH at a;grind
 cases h
theorem GI{t:Int}{l:List (Int×Int)}{b:cD}(h:iu t l=some b):b.length=fc t/\∀x∈b,x<256:=by grind[iu,fo,pU,xt,aha]
theorem Wt{d:Dv}{i:Int}{s:cD}(h:(gu d i s).2=0):(gu d i s).1.cO=false:=by
 have k:(iZ (eG d)).2=true->(iZ (eG d)).1.cO=false:=by grind[iZ]
 unfold gu at*;grind
theorem Ml{s:Pl}{i:Int}{b:cD}(h:(dY s i b).2.2=0):(dY s i b).1.dv.cO=false:=by
 unfold dY at*;split at h;cases h
 next h1=>
 split at h;next h2=>rw[cM h1,cL h2];grind[jE,Wt]
 cases h
structure Laid(D:Nat->cD)(n st:Nat)(q:cy)(text:cD)(tk:List (Int×Int))(dx:List cy)(ats:cD):Prop where
 tab:∃p1 p2 l m sp ats1 ats2,iu (n:Nat) tk=some sp/\fY p1=true/\fY p2=true/\cY p1/\cY p2/\D q.1=oe (zU p1 text.length p2 sp.length)/\q.2.2=j9 (D q.1)/\q.1<n/\q≠cH/\Cy D n st p1 text l ats1/\Cy D n st p2 sp m ats2/\dx=([q]++l)++m/\(∀a∈ats1,a∈ats)/\(∀a∈ats2,a∈ats)/\q.1∈ats
 perm:(dx.map Prod.fst).Perm ats
 st:∀q∈dx,q.2.1=st/\q≠cH
def Cy.congr{st:Nat}{all:List cy}(h:Cy D n st cz bs all ats)(e:∀a∈ats,E a=D a):Cy E n st cz bs all ats:=
 ⟨λu c d f=>h.load u c d λa b=>(f a b).trans (e a b),h.perm,h.st,h.top,h.parts⟩
theorem Mm{s:Pl}(O:1<=s.cA)(Q:gU s.cA)(hd:mG s.dv.nw)(N:s.dv.n<=1024)(hb:∀x∈text,x<256)(nd:ats.Nodup)(hl:ats.length=1+jn (text.length:Nat)+jn (fc (s.dv.n:Nat):Nat))(hr:∀a∈ats,a<1024):
 ((gl s text ats).2.2.2=0->Laid (gl s text ats).1.dv.nw s.dv.n s.cA (gl s text ats).2.1 text (kA s.mp 2) (gl s text ats).2.2.1 ats/\PW (·∈ats) s (gl s text ats).1/\(gl s text ats).1.mp=s.mp):=by
 intro h;have ea:ats.length-1<ats.length:=cw;have split:ats=ats.take (jn (text.length:Nat))++((ats.take (ats.length-1)).drop (jn (text.length:Nat))++[ats.getD (ats.length-1) 0]):=by
  have h1:ats.take (jn (text.length:Nat))=(ats.take (ats.length-1)).take (jn (text.length:Nat)):=by grind
  grind[append_assoc,take_append_drop,drop_eq_getElem_cons]
 have d:=nd;rw[split,xj,xj] at d;have E:=Dr O Q hd N hb d.1;unfold gl mw2 at h|-;generalize fx s text (ats.take (jn (text.length:Nat)))=X at*;obtain⟨K,n,V⟩:=X;simp only at h E|-;by_cases e1:V=0;case neg=>grind
 rw[cM cw] at h|-;obtain⟨w1,f,k2,l,v⟩:=E.1 e1;have X0:K.mp=s.mp:=E.2.1;rw[f.wr.n,X0] at h|-;split at h;simp at h
 next sp hsp=>
 have F:=Dr (s:=K) (by rw[f.st];exact O) (by rw[f.st];exact Q) k2 (by rw[f.wr.n];exact N) (GI hsp).2 d.2.1.1;unfold mw3 at h|-;generalize fx K sp ((ats.take (ats.length-1)).drop (jn (text.length:Nat)))=Y at*;obtain⟨B,o,c2⟩:=Y;simp only at h F|-;by_cases e2:c2=0;case neg=>grind
 rw[cM cw] at h|-;obtain⟨w2,u,k4,m,p⟩:=F.1 e2;rw[f.wr.n,f.st] at p;split at h;simp at h
 next t ht=>
 obtain⟨r1,r2,rfl⟩:=Ws ht;generalize hc:ats.getD (ats.length-1) 0=c at*;have w:=GD B c (zU n text.length o sp.length);unfold mw4 at h|-;have L:=Ml (s:=B) (i:=(c:Int)) (b:=zU n text.length o sp.length);generalize dY B c (zU n text.length o sp.length)=Z at*;obtain⟨g,q,c3⟩:=Z;simp only at h w L|-;by_cases M:c3=0;case neg=>grind
 rw[cM cw] at h|-;obtain⟨_,lt,eq,nw⟩:=w.2.2.1 M;have A:PW (λa=>a=c) B g:=w.1.mono λa h=>h.1;have C:Cy g.dv.nw s.dv.n s.cA n text l (ats.take (jn (text.length:Nat))):=v.congr λa y=>(A.nw a λe=>(λh=>d.2.2 c h c (Ej _ lW) ae) (e▸y)).trans (u.nw a ((λa h h'=>d.2.2 a h a (mem_append_left _ h') ae) a y));have D:Cy g.dv.nw s.dv.n s.cA o sp m ((ats.take (ats.length-1)).drop (jn (text.length:Nat))):=p.congr λa y=>A.nw a λe=>(λh=>d.2.1.2.2 c h c lW ae) (e▸y);have T:g.dv.n=s.dv.n:=(A.wr.n).trans ((u.wr.n).trans f.wr.n);have m3:g.mp=s.mp:=(w.2.1.trans F.2.1).trans X0;obtain⟨t1,j1,z,j3⟩:=C.load g (L M) T λ_ _=>ae;obtain⟨t2,j4,R,j6⟩:=D.load t1 j3.2 ((z.wr.n).trans T) λa _=>by rw[z.nn]
 rw[j1];unfold mw5;simp only[ne_eq,vQ,lE,j4];have wn:t2.dv.nw=g.dv.nw:=(R.nn).trans z.nn;have H:q=(c,s.cA,j9 (oe (zU n text.length o sp.length))):=by rw[eq,u.st,f.st]
 have r:q.1=c:=by rw[H]
 have J:q≠cH:=λe=>by rw[e] at H;have:=fK (·.2.1) H;grind[cH]
 have G:c∈ats:=by grind
 have j:∀a∈ats.take (jn (text.length:Nat)),a∈ats:=λa h=>lu h;have k:∀a∈(ats.take (ats.length-1)).drop (jn (text.length:Nat)),a∈ats:=λa h=>lu (mR h);have dq:g.dv.nw c=oe (zU n text.length o sp.length):=by rw[nw];simp[iQ]
 refine⟨⟨⟨n,o,l,m,sp,_,_,hsp,r1,r2,?_,?_,?_,?_,?_,J,?_,?_,ae,j,k,by grind⟩,?_,?_⟩,?_,?_⟩;exact v.parts;exact p.parts;grind;grind;rw[r,<-f.wr.n,<-u.wr.n];exact lt;grind;grind;rw[split];simp only[mI,xd,map_nil,r];rw[wh];refine List.perm_append_comm.trans ?_;rw[<-wh];exact(Perm.append v.perm p.perm).append_right [c];intro U I;rcases fL.1 I with h|h;rcases fL.1 h with h|h;grind;exact v.st U h;exact p.st U h;exact((((f.mono j).trans (u.mono k)).trans (A.mono λa h=>h▸G)).trans (z.mono λ_ h=>h.elim)).trans (R.mono λ_ h=>h.elim);grind
theorem Mn(d:Dv):(gZ d).1.n=d.n/\(gZ d).1.nw=d.nw/\(d.al->(gZ d).2=0/\(gZ d).1.al):=by obtain⟨o,f,k,e,h⟩:=Mc d;unfold gZ;split;rw[e];exact⟨ae,ae,λg=>⟨ae,(h g).2⟩⟩;grind
theorem Jr(d:Dv)(u:qi):(eS d u).1.n=d.n/\((eS d u).2=0->kI u=true/\(eS d u).1.nw=iQ d.nw (u.lD%4) (sg u))/\(d.al->kI u=true->4<=d.n->(eS d u).2=0/\(eS d u).1.al):=by
 unfold eS lf;by_cases h:kI u=true;simp only[h,nI];have b:=Mn d;have w:=T5 (A:=λ_=>True) (gZ d).1 ((u.lD%4:Nat):Int) (sg u) λ_ _=>gI;have e:=Mn (gu (gZ d).1 ((u.lD%4:Nat):Int) (sg u)).1;split;grind;split;(next e1 e2=>exact⟨w.1.n.trans b.1,λf=>absurd f e2,λa _ c=>absurd (w.2.2 (b.2.2 a).2 cw cw) e2⟩);next e1 e2=>refine⟨e.1.trans (w.1.n.trans b.1),λ_=>⟨gI,?_⟩,λa _ c=>e.2.2 (w.1.al (b.2.2 a).2)⟩;grind
 simp[h]
theorem Mo(m:Nat->Nat)(a:Nat):lY m a=2↔m a=2:=by grind[lY]
def adn(h:∀a,m' a=2↔m a=2):kA m' 2=kA m 2:=Vq λa _=>h a
structure NO(x y:GT):Prop where
 uL:Good y
 b:y.b=x.b
 n:y.s.dv.n=x.s.dv.n
 laid:∃text ats,gW x.b=some text/\Laid y.s.dv.nw x.s.dv.n x.s.cA y.ub.gJ text (kA y.s.mp 2) y.dx ats/\(∀a∈ats,4<=a/\a<x.s.dv.n)
 ub:y.ub.lD=iA x.ub.lD/\y.ub.cA=x.s.cA/\y.ub.len=40/\y.ub.fB=x.s.dv.n/\kI y.ub=true
 slot:y.s.dv.nw (y.ub.lD%4)=sg y.ub
 ring:∀a,a<4->a≠y.ub.lD%4->y.s.dv.nw a=x.s.dv.nw a
 cA:y.s.cA=iA x.s.cA/\y.s.base=x.s.cA
 dx:∀text,gW x.b=some text->y.dx.length=mz text.length x.s.dv.n
 free:∀a,y.s.mp a≠3
 two:∀a,(y.s.mp a=2↔(x.s.mp a=2/\¬∃q∈x.dx,q.1=a)∨∃q∈y.dx,q.1=a)/\((∃q∈y.dx,q.1=a)->x.s.mp a≠2∨∃q∈x.dx,q.1=a)
theorem Uh{x:GT}(G:Good x)(K:mG x.s.dv.nw)(F:gU x.s.cA)(R:x.s.cA<=281474976710655)(T:∀text,gW x.b=some text->∀c∈text,c<256)(d:(gi x.s x.b x.dx).2.2.2=0){dv:Dv}(t:dv.n=(gi x.s x.b x.dx).1.dv.n)(u:dv.nw=iQ (gi x.s x.b x.dx).1.dv.nw ((rQ x (gi x.s x.b x.dx)).lD%4) (sg (rQ x (gi x.s x.b x.dx))))(w:kI (rQ x (gi x.s x.b x.dx))=true):
 NO x {x with dx:=(gi x.s x.b x.dx).2.2.1,ub:=rQ x (gi x.s x.b x.dx),s:=nM {(gi x.s x.b x.dx).1 with dv:=dv}}:=by
 unfold gi at*;cases I:gW x.b with
 |none=>grind
 |some text=>
  rw[I] at d t u w;simp only at d t u w|-;have H:∀q∈x.dx,q.1<1024:=λq i=>by
   have:=(G.hd q i).1;have:=(G.map q.1).2.1 cw;have:=G.n;omega
  have F:=wX x.dx x.s H;by_cases hc:eF (dI x.s x.dx).mp<mz text.length (dI x.s x.dx).dv.n
  . grind
  rw[cM hc] at d t u w|-;generalize hs1:dI x.s x.dx=s1 at*;obtain⟨A,d2,H,H⟩:=F;rw[d2] at hc d t u w|-;have L:mz text.length x.s.dv.n<=eF s1.mp:=cw;have F:Bc s1.mp (mz text.length x.s.dv.n:Nat)=some (il s1.mp (mz text.length x.s.dv.n)):=by simp_all[Bc]
  have F:xF s1.mp (mz text.length x.s.dv.n:Nat)=(il s1.mp (mz text.length x.s.dv.n)).1:=by grind[xF]
  have J:BO s1.mp (mz text.length x.s.dv.n:Nat)=(il s1.mp (mz text.length x.s.dv.n)).2:=by grind[BO]
  rw[F,J] at d t u w|-;obtain⟨U,V,N,O⟩:=O2 s1.mp _ L;generalize il s1.mp (mz text.length x.s.dv.n)=MN at*;obtain⟨ats,o⟩:=MN;simp only at U V N O d t u w|-;have J:=G.n;have Q:∀a∈ats,4<=a/\a<x.s.dv.n:=λa n=>(G.map a).2.1 (by have:=(A.zero a).2;grind);have F:=Mm (s:=⟨x.s.dv,o,s1.cA,s1.base⟩) (by show 1<=s1.cA;rw[H];exact G.Ud) iG K J.2 (text:=text) (T text I) V (by rw[U];rfl) (λa n=>by grind);generalize gl ⟨x.s.dv,o,s1.cA,s1.base⟩ text ats=W at*;obtain⟨b,q,dx,c⟩:=W;simp only at d t u w F|-;obtain⟨L,J,f⟩:=F d;have u3:=u;have F:b.dv.n=x.s.dv.n:=J.wr.n;have r:b.cA=x.s.cA:=J.st.trans H;have L:Laid b.dv.nw x.s.dv.n x.s.cA q text (kA o 2) dx ats:=by grind
  have f:b.mp=o:=f;have K:(rQ x (b,(q,(dx,c)))).lD=iA x.ub.lD/\(rQ x (b,(q,(dx,c)))).cA=x.s.cA/\(rQ x (b,(q,(dx,c)))).gJ=q/\(rQ x (b,(q,(dx,c)))).len=40/\(rQ x (b,(q,(dx,c)))).fB=x.s.dv.n:=⟨ae,r,ae,ae,F⟩;generalize rQ x (b,(q,(dx,c)))=ub at*;have two:∀a,lY o a=2↔(x.s.mp a=2/\∀q∈x.dx,q≠cH->q.1≠a)∨a∈ats:=λa=>by
   rw[Mo];by_cases e:a∈ats
   . grind
   . rw[(O a).2 e,A.two];grind
  have j:∀a,4<=a->dv.nw a=b.dv.nw a:=λa n=>by rw[u3];unfold iQ;grind
  have v:∀a∈ats,x.s.mp a≠2∨∃q∈x.dx,q.1=a:=λa n=>by
   have y:=N a n;rcases A.one a y with h|⟨_,q,i,e,_⟩<;>grind
  have D:∀a∈ats,¬Re (pt x.s.dv.nw) (·∈x.b.cE) a:=λa n h=>by
   rcases v a n with y|⟨q,i,e⟩
   . exact y (G.tk a h)
   . exact(G.hd q i).2.1 (e▸h)
  have E:∀s∈x.b.cE,∀k,pt x.s.dv.nw s.cz k≠cH->dv.nw (pt x.s.dv.nw s.cz k).1=x.s.dv.nw (pt x.s.dv.nw s.cz k).1:=λs z k N=>by
   have H:Re (pt x.s.dv.nw) (·∈x.b.cE) (pt x.s.dv.nw s.cz k).1:=⟨s,k,z,N,ae⟩;have:=G.tk _ H;rw[j _ ((G.map _).2.1 cw).1];exact J.nw _ λn=>D _ n H
  have e:∀s∈x.b.cE,∀k,pt dv.nw s.cz k=pt x.s.dv.nw s.cz k:=λs z=>((G.rd s z).congr (E s z)).2;have O:=λa=>Re.Mi (M:=(·∈x.b.cE)) e a;have N:dv.n=x.s.dv.n:=t.trans F;have C:∀p,p∈dx->p.1∈ats:=λp g=>L.perm.mem_iff.1 (fM.2 ⟨p,g,ae⟩);have X:iA x.s.cA=x.s.cA+1:=vI R;have F:kA (lY o) 2=kA o 2:=adn λa=>Mo o a;have F:Laid dv.nw x.s.dv.n x.s.cA q text (kA o 2) dx ats:=by
   obtain⟨⟨p1,p2,l,m,sp,F,H,R,b2,b3,b4,b5,Y,Y,b8,b9,c1,c2,c3,Y,Z,c6⟩,k2,k3⟩:=L;exact⟨⟨p1,p2,l,m,sp,F,H,R,b2,b3,b4,b5,by grind,by grind,b8,b9,c1.congr λa h=>j a (Q _ (Y a h)).1,c2.congr λa h=>j a (Q _ (Z a h)).1,c3,Y,Z,c6⟩,k2,k3⟩
  have F:Good ⟨x.b,dx,ub,nM {b with dv:=dv}⟩:=by
   refine⟨G.inc,G.pK,G.vN,?_,λs z=>?_,λa=>?_,?_,λa h=>?_,λa h=>?_,λp g=>?_,?_,?_,G.nx⟩
   . show TI (pt dv.nw) (iA b.cA) _;rw[r,X];exact(G.ti.Mi e).later
   . show Rd dv.nw dv.n s.cz;rw[N];exact((G.rd s z).congr (E s z)).1
   . show lY b.mp a<=3/\(lY b.mp a≠0↔4<=a/\a<dv.n);rw[N,f];have y:=G.map a;have H:=A.zero a;have R:=A.le (λa=>(G.map a).1) a
     grind[lY]
   . grind[nM]
   . have h:=(O a).1 h;show lY b.mp a=2;rw[f,two];exact .inl ⟨G.tk a h,λp g _ e=>(G.hd p g).2.1 (e▸h)⟩
   . have h:lY b.mp a=2:=h;rw[f,two] at h;rcases h with⟨y,H⟩|h
     . refine .inl ((O a).2 ((G.ac a y).resolve_right ?_));rintro⟨p,g,e⟩;exact H p g (G.hd p g).2.2.2 e
     . obtain⟨p,g,e⟩:=fM.1 (L.perm.mem_iff.2 h)
       grind
   . have n:=C p g;refine⟨by simp_all[nM],λh=>D _ n ((O _).1 h),?_,(L.st p g).2⟩;show p.2.1<=b.cA;rw[(L.st p g).1,r];omega
   . exact L.perm.nodup_iff.2 V
   . show b.cA<iA b.cA;grind
  refine⟨F,ae,N,⟨text,ats,I,?_,Q⟩,⟨K.1,K.2.1,K.2.2.2.1,K.2.2.2.2,w⟩,?_,λa y H=>?_,⟨by grind[nM],r⟩,λF h=>?_,λa=>?_,λa=>?_⟩
  . grind[nM]
  . simp_all[iQ,nM]
  . show dv.nw a=_;rw[u3];unfold iQ;rw[cM H];exact J.nw a λh=>by grind
  . rw[I] at h;cases h;show dx.length=_;rw[<-U,<-L.perm.length_eq,lV]
  . show lY b.mp a≠3;grind[lY]
  . have B:(∃q∈dx,q.1=a)↔a∈ats:=⟨λ⟨q,i,e⟩=>e▸C q i,λh=>by
     obtain⟨p,g,e⟩:=fM.1 (L.perm.mem_iff.2 h);grind⟩
    refine⟨?_,λh=>v a (B.1 h)⟩;show lY b.mp a=2↔_;rw[f,two,B];refine or_congr_left (and_congr_right λ_=>⟨λh ⟨q,i,e⟩=>h q i (G.hd q i).2.2.2 e,λh q i _ e=>h ⟨q,i,e⟩⟩)
theorem Js(G:Good x)(f:mG x.s.dv.nw)(g:gU x.s.cA)(d:x.s.cA<=281474976710655)(e:∀text,gW x.b=some text->∀c∈text,c<256)(h:(mA x).2=0):NO x (mA x).1:=by unfold mA uH at*;by_cases a:(gi x.s x.b x.dx).2.2.2≠0;grind;rw[cM a] at h|-;by_cases b:(eS (gi x.s x.b x.dx).1.dv (rQ x (gi x.s x.b x.dx))).2≠0;grind;rw[cM b];grind[Jr,Uh]
theorem Ui{ts:List cD}{r:cD}(h:sa ts=some r):r.length=2+(ts.map λt=>2+t.length).sum:=by
 rw[(AL h).2.2,ik];have e:∀ts:List cD,(ts.flatMap sW).length=(ts.map λt=>2+t.length).sum:=by intro ts;induction ts<;>grind[sW,tK]
 grind[tK]
theorem X4(a:ts.length<=65535)(b:∀t∈ts,t.length<=65535):∃r,sa ts=some r:=by unfold sa;simp_all
def vZ(s:cR):Nat:=58+s.name.size+16*s.cO.length
theorem Mp{s:cR}(h:eC s=true):s.name.size<=24/\s.cO.length<=4000:=by grind[eC,dV]
theorem afs(s:cR):(eC s=true->∃t,nS s=some t/\t.length=vZ s)/\(eC s≠true->nS s=none):=by
 unfold nS;constructor
 . (intro h;rw[cL h];have a:=Mp h;have b:(j8 oL (oC s)++gK s.cz).length=50:=by rfl);have l2:(qx s.name).length=s.name.size:=by simp_all[qx]
   have c:=uA s.cO;obtain⟨r,e⟩:=X4 (ts:=[j8 oL (oC s)++gK s.cz,qx s.name,oK s.cO]) dU (by
    grind)
   grind[Ui,vZ]
 grind
def dZ(l:List cR):Nat:=12+(l.map λs=>2+vZ s).sum
theorem Mq:∀l:List cR,((∀s∈l,eC s=true)->∃ts,jN l=some ts/\ts.length=l.length/\(∀t∈ts,t.length<=65535)/\(ts.map λt=>2+t.length).sum=(l.map λs=>2+vZ s).sum)/\(jN l≠none->∀s∈l,eC s=true)
 | []=>⟨λ_=>⟨[],ae,ae,by simp,ae⟩,by simp⟩
 |s::l=>by
  have r:=afs s;have i:=Mq l;constructor
  . intro h;obtain⟨t,e,g⟩:=r.1 (h s lW);obtain⟨ts,j,a,b,c⟩:=i.1 λx f=>h x (jI _ f);refine⟨t::ts,by grind[jN],by simp[a],λu d=>?_,by simp[c,g]⟩;rcases ib.1 d with rfl|d
    . grind[Mp,vZ]
    grind
  . intro h x f;unfold jN at h
    grind
theorem o5(b:dS):(∃t,gW b=some t/\t.length=dZ b.cE)/\(b.next<=281474976710655/\b.cE.length<=32/\(∀s∈b.cE,eC s=true)/\dZ b.cE<=65535)∨
 gW b=none/\¬(b.next<=281474976710655/\b.cE.length<=32/\(∀s∈b.cE,eC s=true)/\dZ b.cE<=65535):=by
 unfold gW iw;by_cases h:281474976710655<b.next∨32<b.cE.length;grind;rw[cM h];have r:=Mq b.cE;by_cases i:∀s∈b.cE,eC s=true
 . obtain⟨ts,e,a,c,d⟩:=r.1 i;rw[e];obtain⟨t,g⟩:=X4 (ts:=j8 [8] [b.next]::ts) sp_ (λt f=>by
    rcases ib.1 f with rfl|f
    . rw[qP (ws:=[8]) (ns:=[b.next]) ae];decide
    grind)
   (have l:=Ui g;rw[xd,sum_cons,d,qP (ws:=[8]) (ns:=[b.next]) ae] at l;have l:t.length=dZ b.cE:=by grind[dZ,ru]);grind
 grind
theorem aab{m:Nat}(e:1<=m)(h:m<=n)(g:n<=65535):jn (m:Nat)<=jn (n:Nat):=by
 have c:∀(f a b:Nat),a<=b->(iT f a).sum<=(iT f b).sum:=by intro f;induction f with|zero=>grind[iT]|succ f ih=>intro a b h;unfold iT;by_cases d:1<a;rw[cL d,cL cw];have:=ih ((a+7)/8) ((b+7)/8) cw;simp;omega;grind
 unfold jn jV;rw[cM cw,cM cw];exact c _ _ _ sp_
theorem aac{c:dS}{n:Int}(d:0<lP b n)(g:c.next<=281474976710655)(h:c.cE.length<=32)(i:∀s∈c.cE,eC s=true)(j:dZ c.cE<=dZ b.cE):0<lP c n/\lP c n<=lP b n:=by unfold lP at*;rcases o5 b with⟨⟨t,e,l⟩,k⟩|⟨e,_⟩;rw[e] at d|-;rcases o5 c with⟨⟨u,a,l2⟩,f⟩|⟨a,f⟩;rw[a];simp only at d|-;split;grind;unfold mz;have:=aab (m:=u.length) (n:=t.length) (by grind[dZ]) cw cw;omega;grind;grind
noncomputable def cn(p:Nat->Prop):Nat->Nat
 |0=>0
 |k+1=>cn p k+ @ite _ (p k) (Classical.propDecidable _) 1 0
theorem Q8(h:∀a,a<k->p a->q a):cn p k<=cn q k:=by induction k with|zero=>simp_all[cn]|succ k ih=>have:=ih λa b=>h a cw;have g:=h k cw;unfold cn;grind
theorem Mr{r:Nat->Prop}(h:∀a,a<k->(r a↔p a∨q a)/\¬(p a/\q a)):cn r k=cn p k+cn q k:=by induction k with|zero=>rfl|succ k ih=>have:=ih λa b=>h a cw;have g:=h k cw;unfold cn;grind
def O3(h:∀a,a<k->(p a↔q a)):cn p k=cn q k:=by have:=Q8 (k:=k) λa b=>(h a b).1;have:=Q8 (k:=k) λa b=>(h a b).2;omega
theorem GJ{k:Nat}:cn (λ_=>False) k=0:=by induction k<;>grind[cn]
theorem ahb{b:Nat}(h:b<k):cn (λa=>a=b) k=1:=by induction k with|zero=>omega|succ k ih=>unfold cn;by_cases e:b=k;(subst e;have:cn (λa=>a=b) b=cn (λ_=>False) b:=O3 λa c=>by simp;omega);grind[GJ];grind
def X5{k:Nat}:∀(l:cD),l.Nodup->(∀a∈l,a<k)->cn (·∈l) k=l.length
 | [],_,_=>by simp[GJ]
 |b::l,h,g=>by
  rw[vP] at h;rw[Mr (p:=λa=>a=b) (q:=(·∈l)) λa _=>⟨by simp,λ⟨e,e2⟩=>h.1 (e▸e2)⟩,ahb (g b lW),X5 l h.2 λa c=>g a (jI _ c),kr];omega
theorem Uj(m:Nat->Nat):eF m=cn (λa=>m a=1) 1024:=by
 rw[CM];have:∀k,oX m 0 k=cn (λa=>m a=1) k:=by intro k;induction k with|zero=>rfl|succ k ih=>simp_all[Ao,cn]
 grind
theorem rR.all(h:rR n m)(d:n<=1024)(c:4<=n):eF m+cn (λa=>m a=2) 1024+cn (λa=>m a=3) 1024=n-4:=by
 have b:∀k,cn (λa=>4<=a/\a<n) k=min k n-4:=by intro k;induction k<;>grind[cn]
 rw[Uj,<-Mr (r:=λa=>m a=1∨m a=2) λa _=>⟨.rfl,cw⟩,<-Mr (r:=λa=>4<=a/\a<n) λa _=>?_,b];omega;have:=h a;omega
theorem wN(x:GT):zS x=0↔0<lP x.b x.s.dv.n/\lP x.b x.s.dv.n<=eF x.s.mp/\2*lP x.b x.s.dv.n<=eF x.s.mp+x.dx.length:=by simp_all[zS,zN]
theorem Q9(G:Good x):cn (λa=>∃q∈x.dx,q.1=a) 1024=x.dx.length:=by rw[O3 (q:=(·∈x.dx.map Prod.fst)) λa _=>by grind,X5 _ G.nd λa b=>?_,lV];obtain⟨q,c,rfl⟩:=fM.1 b;have:=(G.hd q c).1;have:=(G.map q.1).2.1 cw;have:=G.n;omega
def NO.count(D:NO x y):eF y.s.mp+cn (λa=>y.s.mp a=2) 1024=x.s.dv.n-4:=by
 have:=D.uL.map.all D.uL.n.2 (by have:=D.uL.n;omega);have e:cn (λa=>y.s.mp a=3) 1024=0:=by rw[O3 (q:=λ_=>False) λa _=>by simp;exact D.free a,GJ]
 rw[<-D.n];omega
theorem NO.fit(G:Good x)(D:NO x y)(h:zS x=0):zS y=0:=by
 rw[wN] at h|-;have j:=Q9 D.uL;have i:=Q9 G;have d:=D.count;have f:=G.map.all G.n.2 (by have:=G.n;omega);have b:=Mr (p:=λa=>x.s.mp a=2/\¬∃q∈x.dx,q.1=a) (q:=λa=>∃q∈y.dx,q.1=a) (r:=λa=>y.s.mp a=2) (k:=1024) λa _=>⟨(D.two a).1,λ⟨h1,h2⟩=>by
  rcases(D.two a).2 h2 with h|h<;>grind⟩
 have c:=Mr (p:=λa=>x.s.mp a=2/\¬∃q∈x.dx,q.1=a) (q:=λa=>∃q∈x.dx,q.1=a) (r:=λa=>x.s.mp a=2) (k:=1024) λa _=>⟨⟨λh=>by grind,λh=>h.elim And.left λ⟨q,hq,e⟩=>e▸(G.hd q hq).1⟩,λh=>h.1.2 h.2⟩;rw[D.b,D.n];have g:y.dx.length=lP x.b x.s.dv.n:=by rcases o5 x.b with⟨⟨t,e,_⟩,_⟩|⟨e,_⟩;rw[D.dx t e];unfold lP at*;grind;grind[lP]
 omega
def Fit(x:GT):Prop:=zS x=0
theorem vJ(F:Fit x){k:GT->GT×Int}(b:(k x).1.s.dv.n=x.s.dv.n)(a:(k x).2=0->Fit (k x).1):Fit (dB x k).1:=by grind[dB,uI,Fit,wN,asked]
def X6(h:(qI x r).2=0):Fit (qI x r).1:=by unfold qI at*;split at h;omega;next h1=>rw[cM h1];exact h
theorem Uk{x:GT}(F:Fit x)(cC:fh)(n:Int):Fit (dB x (mH cC n)).1:=by refine vJ F ?_ λh=>?_<;>unfold mH at*;split;rfl;unfold qI;split<;>rfl;split at h;cases h;simp_all[cM,X6]
theorem Wu{x:GT}(F:Fit x)(f t:fh):Fit (dB x (qJ f t)).1:=by refine vJ F ?_ λh=>?_<;>unfold qJ at*;split;rfl;unfold qI;split<;>rfl;split at h;cases h;simp_all[cM,X6]
theorem aad{x:GT}(F:Fit x)(cC:fh):Fit (dB x (vB cC)).1:=by refine vJ F ?_ λh=>?_<;>unfold vB at*;grind[sZ];split at h;cases h;next h1=>split at h;omega;simp_all[cM,Fit,iD]
theorem ado{id:Nat}{top:cy}(h:(tT id top iV x).2=0):Fit (tT id top iV x).1:=by unfold tT AY at*;split at h;grind[x8];next h1=>rw[cM h1];exact h
theorem Ul{id:Nat}(h:(vC id x t).2=0):Fit (vC id x t).1:=by unfold vC at*;split at h;grind[x8];simp_all[ado]
theorem adp{id:Nat}(h:t.1.dv.n=x.s.dv.n):(vC id x t).1.s.dv.n=x.s.dv.n:=by grind[vC,tT,AY,oO]
theorem Wv{x:GT}(G:Good x)(b:mG x.s.dv.nw)(c:gU x.s.cA)(F:Fit x)(cC:fh)(i:Int)(bs:cD)(a:∀y∈bs,y<256):Fit (dB x (nF cC i bs)).1:=by
 refine vJ F ?_ λh=>?_<;>unfold nF at*;split;rfl;split;rfl;next h _=>exact adp (Wm b c G.n.2 G.map (G.two (G.Q5 cw).1) a).1.wr.n
 split at h;omega;next h1=>split at h;cases h;simp_all[cM,Ul]
theorem aae{x:GT}(G:Good x)(a:mG x.s.dv.nw)(b:gU x.s.cA)(F:Fit x)(cC:fh)(i:Int):Fit (dB x (sD cC i)).1:=by
 refine vJ F ?_ λh=>?_<;>unfold sD at*;split;rfl;next h=>exact adp (Q4 a b G.n.2 G.map (G.two (G.Q5 cw).1)).1.wr.n
 split at h;omega;simp_all[Ul]
theorem Jt(h:∀a,m a=1->m' a=1):eF m<=eF m':=by simp_all[Uj,Q8]
theorem Hz:∀(l:List cy)(s:Pl)(a:Nat),s.mp a=1->(dI s l).mp a=1
 | [],_,_,h=>h
 |q::l,s,a,h=>by
  refine Hz l (oG s q).1 a ?_;have e:∀v,tQ s.mp q.1 2 v a=1:=λv=>by unfold tQ isB jP;split<;>simp_all;intro e;subst e;omega
  unfold oG;split
  . exact h
  split<;>exact e _
theorem Ww(F:Fit x)(j:y.s.dv.n=x.s.dv.n)(i:y.dx=x.dx)(f:∀a,x.s.mp a=1->y.s.mp a=1)(h:y.b.next=x.b.next)(b:y.b.cE.length<=32)(d:(∀s∈x.b.cE,eC s=true)->∀s∈y.b.cE,eC s=true)(e:dZ y.b.cE<=dZ x.b.cE):Fit y:=by
 unfold Fit at*;rw[wN] at*;have g:x.b.next<=281474976710655/\∀s∈x.b.cE,eC s=true:=by grind[o5,lP]
 have c:=aac (n:=x.s.dv.n) F.1 (c:=y.b) cw b (d g.2) e;have:=Jt f;grind
theorem H5:∀(l:List cR)(k:Nat)(y:cR),k<l.length->dZ (l.set k y)+vZ (di l k)=dZ l+vZ y
 | [],k,y,h=>by simp at h
 |s::l,0,y,_=>by grind[dZ,di]
 |s::l,k+1,y,h=>by
  have:=H5 l k y bG;unfold dZ di at*;simp at*;omega
theorem Cz:∀(l:List cR)(k:Nat),k<l.length->dZ (l.eraseIdx k)+(2+vZ (di l k))=dZ l
 | [],k,h=>by simp at h
 |s::l,0,_=>by grind[dZ,di]
 |s::l,k+1,h=>by
  have:=Cz l k bG;unfold dZ di at*;simp at*;omega
theorem aaf(l:List cR)(g:cR->cR)(h:∀s,vZ (g s)=vZ s):dZ (l.map g)=dZ l:=by grind[dZ,map_congr_left]
theorem O5(F:Fit x){iV:cR}(c:b.next=x.b.next)(d:b.cE.length<=32)(e:(∀s∈x.b.cE,eC s=true)->∀s∈b.cE,eC s=true)(f:dZ b.cE<=dZ x.b.cE)(h:(pV b iV x).2=0):Fit (pV b iV x).1:=by have p:=yf x.s iV.cz (eM x.b.cE iV.id);unfold pV wL at*;generalize fA x.s iV.cz (eM x.b.cE iV.id)=r at*;split at h;grind[x8];next h0=>rw[cM h0];exact Ww F (by show(dI r.1 r.2.1).dv.n=_;rw[oO];exact p.1.wr.n) ae (λa g=>Hz _ _ a iG) c d e f
theorem X7(b:dS)(iV:cR)(x:GT):(pV b iV x).1.s.dv.n=x.s.dv.n:=by have p:=(yf x.s iV.cz (eM x.b.cE iV.id)).1.wr.n;grind[pV,wL,oO]
theorem lR(s:cR):eC s=true↔(1<=s.id/\s.id<=281474976710655)/\(1<=s.cG/\s.cG<=281474976710655)/\s.cT<=281474976710655/\(1<=s.blocks/\s.blocks<=64)/\dV s.name=true/\fY s.cz=true/\s.cO.length<=4000/\nj s.cO=true/\(if s.cW=true then 1<=s.cA/\s.cA<=281474976710655 else s.cA=0/\s.cG=s.id):=by simp_all[eC,and_assoc]
theorem aag{x:GT}(G:Good x)(F:Fit x)(cC:fh):Fit (dB x (tE cC)).1:=by refine vJ F ?_ λh=>?_<;>unfold tE pD at*;grind[X7];split at h;omega;next h1=>rw[cM h1];unfold kV at*;split at h1;grind[nt];next i c hi=>have b:=yg G hi;split at h1;simp at h1;next j hj=>have e:=lq hj;simp only[hi,hj] at h|-;refine O5 F ae bN (λa s d=>?_) ?_ h;rcases(G.inc.set b.1 s).1 d with h|rfl;exact a s h.1;grind[lR,nj];grind[H5,vZ]
theorem Fc{p q r:cy}(h:kN p q=true)(g:kN q r=true):kN p r=true:=by grind[kN]
theorem uM(l:List cy):nj l=true↔(∀q∈l,xR q=true)/\l.Pairwise λp q=>kN p q=true:=by unfold nj rU;rw[qk];constructor;(intro h;have b:∀q∈l,xR q=true:=λq e=>by obtain⟨i,c,rfl⟩:=yk e;simp_all);(have g:∀i,(a:i+1<l.length)->kN l[i] l[i+1]=true:=λi a=>by have:=h (i+1) (wZ.2 a);grind);refine⟨b,GY.2 λi j c f d=>?_⟩;induction j<;>grind[Fc];grind[pairwise_iff_getElem]
theorem wO:∀(a b r:List cy),a.Pairwise (λp q=>kN p q=true)->b.Pairwise (λp q=>kN p q=true)->gM a b=some r->r.Pairwise (λp q=>kN p q=true)/\r.length=a.length+b.length
 | [],b,r,_,h,e=>by grind[gM]
 |p::a,[],r,h,_,e=>by grind[gM]
 |p::a,c::b,r,h,g,e=>by
  rw[Bv] at h g;unfold gM at e;split at e
  . next h1=>
    obtain⟨r',f,rfl⟩:=yP.1 e;have k:=wO a (c::b) r' h.2 (Bv.2 g) f;refine⟨Bv.2 ⟨λq d=>?_,k.1⟩,by grind⟩;rcases(sG _ _ _ f q).1 d with d|d
    . grind
    . rcases ib.1 d with rfl|d
      . exact h1
      grind[Fc]
  split at e
  . next _ h1=>
    obtain⟨r',f,rfl⟩:=yP.1 e;have k:=wO (p::a) b r' (Bv.2 h) g.2 f;refine⟨Bv.2 ⟨λq d=>?_,k.1⟩,by grind⟩;rcases(sG _ _ _ f q).1 d with d|d
    . rcases ib.1 d with rfl|d
      . exact h1
      grind[Fc]
    grind
  . cases e
termination_by a b=>a.length+b.length
theorem GK{x:GT}(G:Good x)(F:Fit x)(cC:fh):Fit (dB x (dQ cC)).1:=by
 refine vJ F ?_ λh=>?_<;>unfold dQ at*;grind[dG,pD,X7,vY,oO]
 cases n:dG cC with
 |none=>grind
 |some p=>
  rw[n] at h;simp only[Option.elim] at h|-;split at h;next hv=>rw[cL hv];unfold pD at*;split at h;omega;next h1=>rw[cM h1];unfold eX at*;split at h1;grind[nt];next i c hi=>have b:=yg G hi;split at h1;simp at h1;next hw=>simp only[hi,hw,lE] at h|-;refine O5 F ae (gO (GX _ _) G.pK) (λd s f=>d s (BB f)) ?_ h;grind[Cz]
  next hv=>rw[cM hv];unfold vY at*;split at h;cases h;next h1=>split at h;omega;next h2=>rw[cM h1,cM h2];unfold ez at*;split at h2;simp at h2;next vs hfs=>split at h2;simp at h2;next i hi=>split at h2;simp at h2;next hcl=>split at h2;simp at h2;next j hj=>split at h2;simp at h2;next all hall=>split at h2;simp at h2;next hlen=>simp only[hfs,hi,hcl,hj,hall,hlen,lE];obtain⟨y,sn⟩:=vs;have b:=qK G.inc (yM hfs).1 hi;have g:=lq hj;refine Ww F (by grind[oO]) ae (λa m=>Hz _ _ a m) ae (gO (GX _ _) bN) (λd s f=>?_) ?_;rcases wq (BB f) with h|rfl;grind;have a:=(lR _).1 (d _ g.2.1);have c:=(lR _).1 (d _ (jO b.1).1);have k:=(uM _).1 a.2.2.2.2.2.2.2.1;have t:=(uM _).1 c.2.2.2.2.2.2.2.1;have ms:=wO _ _ _ (k.2.sublist filter_sublist) t.2 hall;rw[lR];refine⟨a.1,a.2.1,c.2.2.1,a.2.2.2.1,a.2.2.2.2.1,a.2.2.2.2.2.1,by grind,(uM _).2 ⟨λq o=>?_,ms.1⟩,a.2.2.2.2.2.2.2.2⟩;rcases(sG _ _ _ hall q).1 o with h|h;exact k.1 q (u9.1 h).1;grind;(have u:all.length<=(di x.b.cE j).cO.length+(di x.b.cE i).cO.length:=by(have:∀(a b r:List cy),gM a b=some r->r.length=a.length+b.length:=by intro a b;fun_induction gM a b<;>intro r e;grind;grind;(next ih=>obtain⟨r',l,rfl⟩:=yP.1 e;grind);(next ih=>obtain⟨r',l,rfl⟩:=yP.1 e;grind);cases e);grind[mr]);(have v:=H5 x.b.cE j {di x.b.cE j with cO:=all,cT:=(di x.b.cE i).cT} g.1;have w:=Cz (x.b.cE.set j {di x.b.cE j with cO:=all,cT:=(di x.b.cE i).cT}) i iG;show dZ ((x.b.cE.set j _).eraseIdx i)<=_;by_cases e:i=j);grind[di];(have:di (x.b.cE.set j {di x.b.cE j with cO:=all,cT:=(di x.b.cE i).cT}) i=di x.b.cE i:=by simp_all[di,oU]);grind[vZ]
theorem Ra{x:GT}(G:Good x)(F:Fit x)(cC:fh):Fit (dB x (lQ cC)).1:=by refine vJ F ?_ λh=>?_<;>unfold lQ at*;split<;>rfl;split at h;omega;next h1=>rw[cM h1];obtain⟨v,i,j,e,sn,_⟩:=GC G h1;rw[e];refine Ww F ae ae (λa d=>d) ae (by show(map _ _).length<=32;simp;exact G.pK) (λb s f=>?_) (Nat.le_of_eq (aaf _ _ λ_=>ae));obtain⟨t,g,rfl⟩:=fM.1 f;have a:=(lR _).1 (b t g);have c:=(lR _).1 (b v i);rw[lR];grind
structure Um(x y:GT):Prop where
 dx:y.dx=x.dx
 ub:y.ub=x.ub
 base:y.s.base=x.s.base
 st:x.s.cA<=y.s.cA/\y.s.cA<=x.s.cA+1
 nx:y.b.next<=x.b.next+1
theorem Ms(n:Nat):iA n<=n+1:=by grind[iA]
theorem Um.refl(x:GT):Um x x:=⟨ae,ae,ae,cw,cw⟩
theorem vK{x:GT}{k:GT->GT×Int}(h:(k x).2=0->Um x (k x).1):Um x (dB x k).1:=by unfold dB uI;split;exact .refl x;split;exact⟨ae,ae,ae,by simp[asked],by simp[asked]⟩;grind
theorem Mt{x:GT}{r:dS×Int}(h:r.1.next<=x.b.next+1):Um x (qI x r).1:=by unfold qI sC;split;exact .refl x;exact⟨ae,ae,ae,by simp,h⟩
theorem Un(x:GT)(cC:fh)(n:Int):Um x (dB x (mH cC n)).1:=by grind[vK,Ms,mH,Mt,jh,yY]
theorem Wx(x:GT)(f t:fh):Um x (dB x (qJ f t)).1:=vK λ_=>by have:=Ms x.b.next;unfold qJ;split;exact .refl x;refine Mt ?_;unfold jH yY;grind
theorem aah(x:GT)(cC:fh):Um x (dB x (vB cC)).1:=vK λ_=>by have:=Ms x.b.next;unfold vB;split;exact .refl x;next h=>split;exact .refl x;refine⟨ae,ae,ae,?_,?_⟩;grind[vI,sZ];grind[iD,sC]
theorem Rb(x:GT)(cC:fh):Um x (dB x (lQ cC)).1:=vK λ_=>by unfold lQ;split;exact .refl x;refine⟨ae,ae,ae,by simp[sC],?_⟩;grind[fI,sC]
theorem H7(l:List cy):∀s:Pl,(dI s l).cA=s.cA/\(dI s l).base=s.base:=by
 induction l with
 |nil=>intro s;exact ay
 |cons q l ih=>
  intro s;have:=ih (oG s q).1;have e:(oG s q).1.cA=s.cA/\(oG s q).1.base=s.base:=by unfold oG;grind
  simp_all[dI]
theorem O6(b:dS)(iV:cR)(x:GT)(h:b.next<=x.b.next+1):Um x (pV b iV x).1:=by have p:=yf x.s iV.cz (eM x.b.cE iV.id);unfold pV wL;split;exact⟨ae,ae,p.1.ba,by show _<=Pl.cA _/\Pl.cA _<=_;rw[p.1.st];omega,by grind⟩;have d:=H7 (fA x.s iV.cz (eM x.b.cE iV.id)).2.1 (fA x.s iV.cz (eM x.b.cE iV.id)).1;exact⟨ae,ae,d.2.trans p.1.ba,by show _<=(dI _ _).cA/\(dI _ _).cA<=_;rw[d.1,p.1.st];omega,h⟩
theorem aai(x:GT)(cC:fh):Um x (dB x (tE cC)).1:=by grind[vK,tE,pD,O6,kV]
theorem GL(x:GT)(cC:fh):Um x (dB x (dQ cC)).1:=vK λ_=>by unfold dQ;cases dG cC with|none=>exact .refl x|some p=>simp only[Option.elim];split;unfold pD;split;exact .refl x;grind[O6,eX];unfold vY;split;exact .refl x;split;exact .refl x;have d:=H7 (ez x.b cC).2.1 x.s;refine⟨ae,ae,d.2,by grind,?_⟩;show(ez x.b cC).1.next<=_;unfold ez;grind
theorem Uo{id:Nat}(h:PW A x.s t.1):Um x (vC id x t).1:=by unfold vC;split;exact akV;unfold tT AY;split;exact akV;have d:=H7 (kf (iy x.b id t.2.1) id t.2.2.1).2.1 t.1;refine⟨ae,ae,d.2.trans h.ba,by show _<=(dI _ _).cA/\(dI _ _).cA<=_;rw[d.1,h.st];omega,?_⟩;grind[kf,iy]
theorem Wy{x:GT}(G:Good x)(b:mG x.s.dv.nw)(c:gU x.s.cA)(cC:fh)(i:Int)(bs:cD)(a:∀y∈bs,y<256):Um x (dB x (nF cC i bs)).1:=vK λ_=>by unfold nF;split;exact .refl x;split;exact .refl x;next h _=>exact Uo (Wm b c G.n.2 G.map (G.two (G.Q5 cw).1) a).1
theorem aaj{x:GT}(G:Good x)(a:mG x.s.dv.nw)(b:gU x.s.cA)(cC:fh)(i:Int):Um x (dB x (sD cC i)).1:=vK λ_=>by unfold sD;split;exact .refl x;next h=>exact Uo (Q4 a b G.n.2 G.map (G.two (G.Q5 cw).1)).1
theorem aft{a b:List cy}(h:a.Nodup)(g:∀n∈a,n∈b):a.length<=b.length:=by induction a generalizing b with|nil=>simp|cons x a ih=>rw[vP] at h;have:=ih (b:=b.erase x) h.2 λn c=>(mem_erase_of_ne (λe=>by grind)).2 (g n (jI _ c));grind
theorem adq(p:cy):kN p p≠true:=by grind[kN]
theorem Wz{p q:cy}(h:kN p q≠true)(g:kN q p≠true):p=q:=by grind[kN]
theorem Fe:∀(a b:List cy),(∀q∈a,q∉b)->∃r,gM a b=some r
 | [],b,_=>⟨b,by simp[gM]⟩
 |p::a,[],_=>⟨p::a,by simp[gM]⟩
 |p::a,c::b,h=>by
  unfold gM;by_cases g:kN p c=true
  . obtain⟨r,e⟩:=Fe a (c::b) λq d=>h q (jI _ d)
    grind
  by_cases i:kN c p=true
  . obtain⟨r,e⟩:=Fe (p::a) b λq d f=>h q d (jI _ f)
    grind
  grind[Wz,mem_cons_self]
termination_by a b=>a.length+b.length
theorem Fit.right(F:Fit x):∀s∈x.b.cE,eC s=true:=by unfold Fit at F;rw[wN] at F;rcases o5 x.b with⟨_,k⟩|⟨e,_⟩<;>grind[lP]
theorem Good.merged(G:Good x)(F:Fit x)(a:s∈x.b.cE)(A:j∈x.b.cE)(t:j.cT=s.id):∃r,gM (mr j.cO (eM x.b.cE s.id)) s.cO=some r/\r.length<=73:=by
 have o:=λq=>G.ti.cO (q:=q) A a t.symm;obtain⟨r,e⟩:=Fe (mr j.cO (eM x.b.cE s.id)) s.cO λq g i=>by obtain⟨c,k,e,_⟩:=(o q).1 (u9.1 g).1;by_cases d:s.cT=0;rw[G.ti.wy a d] at i;cases i;obtain⟨p,d,n,_⟩:=G.ti.pr a d;obtain⟨_,l,C,E⟩:=(G.ti.cO a d n).1 i;obtain⟨rfl,_⟩:=G.ti.tN a d (k:=k) (l:=l) iG iG (by rw[e,C]);exact E e
 refine⟨r,e,?_⟩;by_cases d:s.cT=0;(have:r=[]:=by apply List.eq_nil_iff_forall_not_mem.2;intro q w;rcases(sG _ _ _ e q).1 w with h|h;obtain⟨g,i⟩:=u9.1 h;obtain⟨c,k,f,_⟩:=(o q).1 g;have:=(pQ q (eM x.b.cE s.id)).2 ⟨c,Nat.lt_of_not_le λu=>G.ti.ag3 d _ ((G.tH a f c).1 u)⟩;grind;rw[G.ti.wy a d] at h;cases h);grind;(obtain⟨p,m,n,_⟩:=G.ti.pr a d;have:=aft ((wO _ _ _ (((uM _).1 (((lR _).1 (F.right j A)).2.2.2.2.2.2.2.1)).2.sublist filter_sublist) ((uM _).1 (((lR _).1 (F.right s a)).2.2.2.2.2.2.2.1)).2 e).1.imp λh e=>by grind[adq]) (b:=(range 73).map (pt x.s.dv.nw p.cz)) λq w=>by(have z:∃k,pt x.s.dv.nw p.cz k=q/\q≠cH:=by rcases(sG _ _ _ e q).1 w with h|h;(obtain⟨g,i⟩:=u9.1 h;obtain⟨c,k,f,_⟩:=(o q).1 g;have y:Up (·∈x.b.cE) s q.2.1:=yQ λy=>by have:=(pQ q (eM x.b.cE s.id)).2 ⟨c,Nat.lt_of_not_le λu=>y ((G.tH a f c).1 u)⟩;grind);subst f;obtain⟨I,v,B,_,_,D⟩:=G.ti.up a c y;exact⟨k,by rw[G.ti.id m v (n.trans B.symm)];exact D,c⟩;obtain⟨c,k,f,_⟩:=(G.ti.cO a m n).1 h;grind);obtain⟨k,f,c⟩:=z;refine fM.2 ⟨k,wZ.2 (yQ λH=>c (f.symm.trans ?_)),f⟩;unfold pt;grind);grind
def aak(b:dS)(n:fh):Prop:=∃p,dG n=some p/\((p.2=qz/\(eX b n).2.2=0)∨(p.2≠qz/\∃i,jB b.cE n=some i/\rV b.cE (di b.cE i).id=[]))
theorem Good.ahc(G:Good x)(b:s∈x.b.cE)(f:s.cW=true):∃j c,eu x.b.cE (pI x.b.cE s.id)=some j/\di x.b.cE j=c/\c∈x.b.cE/\c.cT=s.id/\c.cG=s.cG:=by
 obtain⟨k,g,h⟩:=G.inc.vF b;obtain⟨c,hc,o,p⟩:=G.vN.nxt b f;have n:pI x.b.cE s.id=((x.b.cE.filter λt=>decide (t.cT=s.id)).find? λt=>decide (t.cG=s.cG)).elim 0 cR.id:=by simp_all[pI]
 cases a:((x.b.cE.filter λt=>decide (t.cT=s.id)).find? λt=>decide (t.cG=s.cG)) with|none=>grind|some d=>have m:=find?_some a;have e:=u9.1 (mem_of_find?_eq_some a);obtain⟨j,i,l⟩:=G.inc.vF e.1;grind
theorem Rc(G:Good x)(F:Fit x)(h:x.s.dv.cO=false){n:fh}{p:fh×fh}(f:dG n=some p):
 ((dQ n x).2=0∨(dQ n x).2=172∨(dQ n x).2=173)/\(aak x.b n->(dQ n x).2=0)/\((dQ n x).2=0->(dQ n x).1.b.cE.length+1=x.b.cE.length):=by
 obtain⟨v,s⟩:=p;unfold dQ aak;rw[f];simp only[Option.elim,xk];by_cases a:s=qz;(subst a;rw[cL ae];have o:rn n=some v:=by grind[rn]);unfold pD eX nt;rw[o];simp only;cases e:jB x.b.cE n with|none=>simp|some i=>have b:=qK G.inc f e;simp only;by_cases g:0<(sJ x.b.cE (di x.b.cE i).id).1.length;simp[g];simp only[g,lE,ne_eq,vQ];have k:=(yf x.s (di x.b.cE i).cz (eM x.b.cE (di x.b.cE i).id)).2.2.2 h (G.rd _ (jO b.1).1).1;unfold pV wL;grind
 (rw[cM a];have m:nq n=some (v,s):=by grind[nq]);unfold vY ez;rw[m];simp only;cases e:jB x.b.cE n with|none=>simp[a]|some i=>have b:=qK G.inc f e;have sn:=G.adk a b.2.1;simp only;by_cases hc:0<(rV x.b.cE (di x.b.cE i).id).length;grind;simp only[hc,lE];obtain⟨j,c,q,t,d,l,_⟩:=G.ahc (jO b.1).1 sn.1;obtain⟨r,u,w⟩:=G.merged F (jO b.1).1 d l;grind
theorem Good.cC(G:Good x)(F:Fit x){t:cR}(d:t∈x.b.cE):∃i p,jB x.b.cE (qf x.b.cE t.id)=some i/\di x.b.cE i=t/\dG (qf x.b.cE t.id)=some p/\(p.2=qz↔t.cW=false):=by
 obtain⟨k,D,E⟩:=G.inc.vF d;have f:=λs A=>((lR s).1 (F.right s A)).2.2.2.2.1;have a:∀n jA cW,dG n=some (jA,cW)->vH x.b.cE jA cW t->(∀u∈x.b.cE,vH x.b.cE jA cW u->u=t)->∃i,jB x.b.cE n=some i/\di x.b.cE i=t:=λn jA cW e g j=>by cases v:jB x.b.cE n with|none=>exact absurd g (A8 G.inc G.names e v d)|some i=>have b:=qK G.inc e v;exact⟨i,ae,j _ (jO b.1).1 b.2.1⟩
 cases l:t.cW with
 |false=>
  have q:qf x.b.cE t.id=t.name:=by simp_all[qf,kD]
  have c:dE t=(0,t.name):=by grind[dE]
  rw[q];obtain⟨i,e,g⟩:=a t.name t.name qz (Hw (f t d)) (by unfold vH;grind) λu m h=>by unfold vH at h;rw[cL ae] at h;exact G.vN.name m d (h.trans c.symm)
  simp_all[Hw]
 |true=>
  obtain⟨o,ho,K,J⟩:=G.vN.own d l;obtain⟨I,q,H⟩:=G.inc.vF ho;have z:qf x.b.cE t.id=o.name++JG++t.name:=by simp_all[qf,kD,T9]
  have c:dE t=(o.id,t.name):=by grind[dE]
  have y:dE o=(0,o.name):=by grind[dE]
  have C:=T9 (f t d);rw[z];obtain⟨i,e,g⟩:=a _ o.name t.name (Mh (f o ho) (f t d)) (by unfold vH;grind) λu m h=>by unfold vH at h;rw[cM C] at h;obtain⟨w,B,j,r⟩:=h;rw[G.vN.name B ho (j.trans y.symm)] at r;exact G.vN.name m d (r.trans c.symm)
  grind[Mh]
theorem adr{α:Type}(f:α->Nat):∀l:List α,l≠ []->∃a∈l,∀b∈l,f b<=f a
 | [],h=>absurd ae h
 | [a],_=>⟨a,lW,λb d=>by grind⟩
 |a::b::l,_=>by
  obtain⟨c,hc,h⟩:=adr f (b::l) dU
  grind
theorem Good.cx(G:Good x):∀(k:Nat)(s:cR),x.s.cA-s.cA<=k->s∈x.b.cE->s.cW=true->∃v∈x.b.cE,v.cW=false/\s.cA<=eM x.b.cE v.id
 |0,s,hk,hs,hn=>by have:=G.ti.st hs hn;omega
 |k+1,s,hk,hs,hn=>by
  obtain⟨c,hc,a,f⟩:=G.vN.nxt hs hn;cases h:c.cW with
  |true=>
   have:=(G.vN.tH hc hs a.symm).2.1 h;have:=G.ti.st hc h;obtain⟨v,m,i,l⟩:=G.cx k c cw hc h
   grind
  |false=>
   obtain⟨n,b,d⟩:=G.inc.vF hc;obtain⟨j,e,g⟩:=G.inc.vF hs;refine⟨c,hc,h,?_⟩;unfold eM;rw[b];simp only[d];rw[cM (by rw[a];exact G.ti.pos hs),a,e];grind
theorem Good.ads(G:Good x)(F:Fit x)(h:x.b.cE≠ []):∃t∈x.b.cE,aak x.b (qf x.b.cE t.id):=by
 have Q5:x.b.cE.filter (λt=>!t.cW)≠ []:=λe=>by
  obtain⟨t,L⟩:=exists_mem_of_ne_nil _ h;have B:∃v∈x.b.cE,v.cW=false:=by cases K:t.cW with|false=>grind|true=>obtain⟨v,k,a,_⟩:=G.vN.own L K;grind
  obtain⟨v,k,a⟩:=B;simp_all
 obtain⟨v,k,H⟩:=adr (λt=>eM x.b.cE t.id) _ Q5;obtain⟨k,N⟩:=u9.1 k;have N:v.cW=false:=by grind
 have H:∀w∈x.b.cE,w.cW=false->eM x.b.cE w.id<=eM x.b.cE v.id:=λw d h=>H w (u9.2 ⟨d,by simp[h]⟩);have f:∀w∈x.b.cE,w.cW=false->(∀p∈x.b.cE,p.id=w.cT->p.cG≠w.id)->aak x.b (qf x.b.cE w.id):=λw d n b=>by
  obtain⟨i,p,u,g,l,s⟩:=G.cC F d;refine⟨p,l,.inl ⟨s.2 n,?_⟩⟩;obtain⟨pv,ps⟩:=p;have:rn (qf x.b.cE w.id)=some pv:=by simp_all[rn]
  unfold eX nt;rw[this,u];simp only[g];obtain⟨ss,q,O,Q,U⟩:=G.ag8 d n;cases ss with|nil=>rw[O];simp|cons r rs=>cases Q<;>grind
 by_cases hc:∀p∈x.b.cE,p.id=v.cT->p.cG≠v.id;grind;(have hc:∃p∈x.b.cE,p.id=v.cT/\p.cG=v.id:=yQ λh=>hc λp b e g=>h ⟨p,b,e,g⟩;obtain⟨p,b,C,T⟩:=hc;have I:=G.ti.om k b C;have R:eM x.b.cE v.id=p.cA:=by obtain⟨M,l,s⟩:=G.inc.vF k;obtain⟨j,y,D⟩:=G.inc.vF b;unfold eM;rw[l];simp only[s];rw[cM (by rw[<-C];exact G.ti.pos b),<-C,y];grind);(have o:∀c∈x.b.cE,c.cT=p.id->c.cW=false:=λc m e=>by cases h:c.cW with|false=>rfl|true=>have:=(G.vN.tH m b e.symm).2.1 h;obtain⟨w,d,z,E⟩:=G.cx _ c (dK _) m h;grind);by_cases A:∃w∈x.b.cE,w.cT=p.id/\w.cG≠p.cG;obtain⟨w,d,z,E⟩:=A;have ws:=o w d z;refine⟨w,d,f w d ws λr J e g=>E ?_⟩;rw[G.vN.jA d ws,<-G.ti.id J b (e.trans z)];omega;obtain⟨i,q,u,g,l,s⟩:=G.cC F b;refine⟨p,b,q,l,.inr ⟨λh=>absurd I.1 iG,i,u,?_⟩⟩;rw[g];obtain⟨M,y,D⟩:=G.inc.vF b;unfold rV;rw[y];simp only[D,I.1,nI];rw[map_eq_nil_iff,filter_eq_nil_iff];grind
theorem WD(l: -1<=e)(d:gT e C=true)(f:Nat->Bool)(m:∀n:Nat,qm C (n:Int)=true->f n=false):
 ∃g,pX f (C.map (Prod.mk true))=some g/\∀n:Nat,g n=if qm C (n:Int)=true then true else f n:=by
 induction C generalizing e f with
 |nil=>exact⟨f,ae,λn=>by simp[qm]⟩
 |cons x r ih=>
  have h:=(fX _ _ _).1 d;have o:=(fm _ _).1 h.1;have i:ph f x.1.toNat true x.2.toNat=false:=by
   unfold ph;rw[<-Bool.not_eq_true,any_eq_true]
   grind[jX]
  obtain⟨g,b,c⟩:=ih (e:=x.1+x.2) cw h.2.2 (xr f x.1.toNat true x.2.toNat) (λn j=>by
   have:=qM h.2.2 j;unfold xr;rw[cM cw]
   grind[jX])
  refine⟨g,(show pX f ((x::r).map (Prod.mk true))=_ by grind[Fo]).trans b,λn=>?_⟩;rw[c n];by_cases k:qm r (n:Int)=true
  . simp_all[jX]
  . rw[cM k];unfold xr;by_cases a:x.1.toNat<=n/\n<x.1.toNat+x.2.toNat
    . rw[cL a,cL ((jX _ _ _).2 (.inl cw))]
    . rw[cM a,cM]
      grind[jX]
theorem GM{l:List (Int×Int)}(h:fS l=true):oy [] l=l.map (Prod.mk true):=by
 have a:jk [] l=[]:=by rfl
 have b:jk l []=l:=by unfold jk;rw[show gG (λn=>pW l n&& !pW [] n)=gG (qp l) from rE λn _=>by simp[pW,h,qp,qm]];exact BE h
 unfold oy;rw[cL (by simp[h];rfl),a,b];simp
theorem WJ{l:List (Int×Int)}(h:fS l=true):sU [] (oy [] l)=some l:=by
 rw[GM h];obtain⟨g,a,b⟩:=WD (C:=l) (e:=-1) (Int.le_refl _) h (qp []) (λn _=>by rfl);unfold sU;rw[cL (show fS []=true from ae),a];show some (gG g)=_
 conv=>rhs;rw[<-BE h]
 grind[rE,qp,qm]
theorem Mu(f:Nat->Bool):∀k,2*(fF f k).length<=k+(if 0<k/\f (k-1)=true then 1 else 0)
 |0=>by simp[fF]
 |k+1=>by
  have b:=Mu f k;have last:=Ph f k;unfold fF;cases a:f k with
  |false=>grind
  |true=>
   simp only[nI,Pb,a];unfold Ki
   grind
def Mv{f:Nat->Bool}{n:Nat}(h:∀a,n<=a->f a=false):∀j,fF f (n+j)=fF f n
 |0=>rfl
 |j+1=>by
  show(if f (n+j)=true then Ki (fF f (n+j)) (n+j) else fF f (n+j))=_;rw[h (n+j) cw,cM dU];exact Mv h j
theorem Mw(C:64<=n)(D:n<=1024)(t:rR n m):∃b,iu (n:Nat) (kA m 2)=some b/\oj (n:Nat) b=some (kA m 2):=by
 have K:fc (n:Nat)=2+5*((n+1)/2):=by unfold fc;grind
 have l:fS (kA m 2)=true:=rD _;have mem:∀a:Int,qm (kA m 2) a=true↔0<=a/\a<1024/\m a.toNat=2:=λa=>by grind[kA,BD]
 have inr:∀a,m a=2->4<=a/\a<n:=λa h=>(t a).2.1 cw;have u:2*(kA m 2).length<=n+1:=by
  unfold kA gG;have e:=Mv (f:=λa=>decide (a<1024/\m a=2)) (n:=n) (λa F=>by
   grind) (4096-n)
  rw[show n+(4096-n)=4096 by omega] at e;rw[e];have:=Mu (λa=>decide (a<1024/\m a=2)) n
  grind
 have c:∀x∈kA m 2,jC x.1 x.2=true:=λx g=>by obtain⟨i,q,rfl⟩:=yk g;exact Fj l q
 have o:∀x∈kA m 2,4<=x.1/\x.1+x.2<=n:=λx g=>by have s:=(fm _ _).1 (c x g);have z:qm (kA m 2) x.1=true:=List.any_eq_true.2 ⟨x,g,by simp;omega⟩;have A:qm (kA m 2) (x.1+x.2-1)=true:=List.any_eq_true.2 ⟨x,g,by simp;omega⟩;grind
 have d:oa (oy [] (kA m 2))=some ((oy [] (kA m 2)).flatMap rH):=by refine Kx ?_ λk r=>?_;grind[GM];simp only[GM l,getElem_map] at r|-;exact c _ (lU iG)
 have B:=LC d;have I:(oy [] (kA m 2)).length=(kA m 2).length:=by grind[GM]
 generalize hlog:(oy [] (kA m 2)).flatMap rH=log at*;have j:iu (n:Nat) (kA m 2)=some (pE 2 (oy [] (kA m 2)).length++pU log++replicate (fc (n:Nat)-(2+log.length)) 0):=by unfold iu;rw[cM iG,cM,d];grind;rintro⟨E,p⟩;unfold Ht OK at p;cases G:kA m 2<;>grind[getLast_mem,getLast?_eq_getLast]
 refine⟨_,j,?_⟩;have H:=GI j;have y:(pE 2 (oy [] (kA m 2)).length++pU log++replicate (fc (n:Nat)-(2+log.length)) 0).take 2=pE 2 (oy [] (kA m 2)).length:=by rfl
 have J:(pU log).length=log.length:=by grind
 unfold oj;rw[cM cw,y,pP 2 _ cw,cM cw];have v:((pE 2 (oy [] (kA m 2)).length++pU log++replicate (fc (n:Nat)-(2+log.length)) 0).take (2+5*(oy [] (kA m 2)).length)).drop 2=pU log:=by grind
 have w:dh (pU log)=log:=by
  unfold dh pU;rw[sK];conv=>rhs;rw[<-map_id log]
  apply map_congr_left;grind[Cn]
 rw[v,w,(RX d).1];show(sU [] (oy [] (kA m 2))).bind _=_;rw[WJ l];show(iu (n:Nat) (kA m 2)).bind _=_;rw[j];simp