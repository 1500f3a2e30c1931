/- Part 14. No conditions. -/
import Derived.Test.YtklligbjoplbgaaGreatNam
import Derived.Shelf.Sort.Plain
import Derived.Sort.OwnSortedInts
import Derived.Shelf.Slices.In.SortNone
import Derived.Lib.SortBridge
set_option linter.all false
namespace Go.Proofs.YtklligbjoplbgaaGreat
set_option maxRecDepth 100000
set_option maxHeartbeats 64000000
open Go.RowKit Lib List Nat _root_.Go.Proofs.Tryz Go.Shelf
variable {A:fJ}{a:Act}{af:Array Edge}{ops:Array Oper}{Q:Exit->Act->cB->Prop}{y:GT}{B ats bs l l2 t text:cD}{X X':cD->cB->Prop}{tk:List (Int×Int)}{zs:List Int}{ts:List cD}{O:List O4}{rest:List Oper}{all dx:List cy}{L:List R4}{xs:List cI}{D K N b b0 base c dst k m n r st sz z:Nat}{o:Option Func}{d:Option Nat}{P:kS}{q:cy}{S:cy->Prop}{s:cR}{p:String}{T e t2:dC}{u:qi}{v:cI}{W w w' w0:cB}
theorem Ju{D:Nat->cD}{cz:cy}(h:Cy D n st cz bs all ats)(d:1<=st)(e:st<=281474976710655)(c:∀a∈ats,4<=a/\a<1024):fY cz=true:=by have a:=c _ (h.perm.mem_iff.1 (fM.2 ⟨cz,h.top,ae⟩));have b:=(h.st cz h.top).1;simp_all[fY]
theorem adt{s:Pl}(D:1<=s.cA)(j:s.cA<=281474976710655)(J:mG s.dv.nw)(C:64<=s.dv.n/\s.dv.n<=1024)(Y:rR s.dv.n s.mp)(I:s.dv.al)(G:∀x∈text,x<256)(V:1<=text.length/\text.length<=65535)(H:ats.Nodup)(F:ats.length=1+jn (text.length:Nat)+jn (fc (s.dv.n:Nat):Nat))(U:∀a∈ats,s.mp a=2/\4<=a/\a<s.dv.n):
 (gl s text ats).2.2.2=0/\(gl s text ats).1.dv.al/\(gl s text ats).2.1.1∈ats/\(gl s text ats).2.1.2.1=s.cA:=by
 have F:gU s.cA:=by grind[gU]
 have R:ats.length-1<ats.length:=cw;have split:ats=ats.take (jn (text.length:Nat))++((ats.take (ats.length-1)).drop (jn (text.length:Nat))++[ats.getD (ats.length-1) 0]):=by
  have R:ats.take (jn (text.length:Nat))=(ats.take (ats.length-1)).take (jn (text.length:Nat)):=by grind
  grind[append_assoc,take_append_drop,drop_eq_getElem_cons]
 have d:=H;rw[split,xj,xj] at d;have K:ats.getD (ats.length-1) 0∈ats:=by grind
 have k:∀a∈ats.take (jn (text.length:Nat)),a∈ats:=λa h=>lu h;have H:∀a∈ats,4<=a/\a<1024:=λa h=>by grind
 have A:=Dr D F J C.2 G d.1;have t:=A.2.2 I (λa h=>U a (k a h)) j V.1 V.2 iG;unfold gl mw2;generalize fx s text (ats.take (jn (text.length:Nat)))=X at*;obtain⟨Q,n,G⟩:=X;simp only at A t|-;subst t;obtain⟨_,f,G,l,R⟩:=A.1 ae;have X0:Q.mp=s.mp:=A.2.1;rw[cM dU,f.wr.n,X0];obtain⟨g,r,_⟩:=Mw C.1 C.2 Y;rw[r];simp only;have sl:=GI r;have J:=Dr (s:=Q) (by rw[f.st];exact D) (by rw[f.st];exact F) G (by rw[f.wr.n];exact C.2) sl.2 d.2.1.1;have z:1<=g.length/\g.length<=65535:=by rw[sl.1];unfold fc;rw[cM cw];omega
 have u:=J.2.2 (f.wr.al I) (λa h=>by rw[X0,f.wr.n];grind) (by rw[f.st];exact j) z.1 z.2 (by rw[r8,kL,sl.1];omega);unfold mw3;generalize fx Q g ((ats.take (ats.length-1)).drop (jn (text.length:Nat)))=Y at*;obtain⟨w,o,F⟩:=Y;simp only at J u|-;subst u;obtain⟨_,E,F,m,G⟩:=J.1 ae;rw[f.wr.n,f.st] at G;have F:=Ju R D j λa h=>H a (k a h);have F:=Ju G D j λa h=>H a ((λa h=>lu (mR h)) a h);have F:zh n text.length o g.length=some (zU n text.length o g.length):=by grind[zh,oN,zU]
 rw[cM dU,F];simp only;generalize hc:ats.getD (ats.length-1) 0=c at*;have p:=GD w c (zU n text.length o g.length);have T:=Ml (s:=w) (i:=(c:Int)) (b:=zU n text.length o g.length);have F:=U c K;have al2:=E.wr.al (f.wr.al I);have J:w.dv.n=s.dv.n:=(E.wr.n).trans f.wr.n;have v:=p.2.2.2 al2 (by rw[X3];omega) iG cw cw;unfold mw4;generalize dY w c (zU n text.length o g.length)=Z at*;obtain⟨y,q,F⟩:=Z;simp only at p T v|-;subst v;obtain⟨_,lt,I,nw⟩:=p.2.2.1 ae;have O:PW (λa=>a=c) w y:=p.1.mono λa h=>h.1;have N:c∉(ats.take (ats.length-1)).drop (jn (text.length:Nat)):=λh=>d.2.1.2.2 c h c lW ae;have L:∀a∈ats.take (jn (text.length:Nat)),a∉(ats.take (ats.length-1)).drop (jn (text.length:Nat)):=λa h F=>d.2.2 a h a (mem_append_left _ F) ae;have F:Cy y.dv.nw s.dv.n s.cA n text l (ats.take (jn (text.length:Nat))):=R.congr λa B=>(O.nw a λe=>(λh=>d.2.2 c h c (Ej _ lW) ae) (e▸B)).trans (E.nw a (L a B));have H:Cy y.dv.nw s.dv.n s.cA o g m ((ats.take (ats.length-1)).drop (jn (text.length:Nat))):=G.congr λa B=>O.nw a λe=>N (e▸B);have G:y.dv.n=s.dv.n:=(O.wr.n).trans J;obtain⟨V,J,M,R⟩:=F.load y (T ae) G λ_ _=>ae;obtain⟨t2,F,U,Y⟩:=H.load V R.2 ((M.wr.n).trans G) λa _=>by rw[M.nn]
 rw[cM dU,J];unfold mw5;simp only[ne_eq,vQ,lE,F];have F:q=(c,s.cA,j9 (oe (zU n text.length o g.length))):=by rw[I,E.st,f.st]
 exact⟨gI,U.wr.al (M.wr.al (p.1.wr.al al2)),by grind,by rw[F]⟩
theorem X8{x:GT}(G:Good x)(F:Fit x)(v:mG x.s.dv.nw)(r:x.s.dv.al)(J:x.s.cA<=281474976710652)(K:x.ub.lD<=281474976710652)(d:∀text,gW x.b=some text->∀c∈text,c<256)(H:x.b.next<=281474976710652):(iR x).2=0/\(iR x).1.s.dv.al/\iR x=mA x:=by
 have u:=G.n;have X:=F;unfold Fit at F;rw[wN] at F;unfold iR;rw[cM (by rw[r.1];simp),cM cw,cM cw];rcases o5 x.b with⟨⟨text,m,M⟩,k⟩|⟨e,_⟩;case inr=>grind[lP]
 have l:lP x.b x.s.dv.n=mz text.length x.s.dv.n:=by unfold lP at F|-;grind
 unfold mA gi;rw[m];simp only;have lt:∀q∈x.dx,q.1<1024:=λq I=>by have:=(G.hd q I).1;have:=(G.map q.1).2.1 cw;omega
 have B:=wX x.dx x.s lt;generalize hs1:dI x.s x.dx=s1 at*;obtain⟨i,d2,Z,j⟩:=B;have Y:=Jt i.ag2;rw[d2];have E:mz text.length x.s.dv.n<=eF s1.mp:=cw;rw[cM cw];have mo:Bc s1.mp (mz text.length x.s.dv.n:Nat)=some (il s1.mp (mz text.length x.s.dv.n)):=by simp_all[Bc]
 have C:xF s1.mp (mz text.length x.s.dv.n:Nat)=(il s1.mp (mz text.length x.s.dv.n)).1:=by grind[xF]
 have D:BO s1.mp (mz text.length x.s.dv.n:Nat)=(il s1.mp (mz text.length x.s.dv.n)).2:=by grind[BO]
 rw[C,D];obtain⟨n,o,N,w⟩:=O2 s1.mp _ E;generalize il s1.mp (mz text.length x.s.dv.n)=MN at*;obtain⟨ats,g⟩:=MN;simp only at n o N w|-;have mk:rR x.s.dv.n s1.mp:=λa=>⟨i.le (λa=>(G.map a).1) a,by have:=(G.map a).2;have:=i.zero a;grind⟩;have p:rR x.s.dv.n g:=λa=>by have h:=mk a;by_cases b:a∈ats<;>grind
 have t:∀a∈ats,4<=a/\a<x.s.dv.n:=λa b=>(mk a).2.1 iG;have z:=adt (s:=⟨x.s.dv,g,s1.cA,s1.base⟩) (by show 1<=s1.cA;rw[j];exact G.Ud) iG v u p r (text:=text) (d text m) (by grind[dZ]) o (by rw[n];rfl) (λa b=>⟨(w a).1 b,t a b⟩);have y:=Mm (s:=⟨x.s.dv,g,s1.cA,s1.base⟩) (by show 1<=s1.cA;rw[j];exact G.Ud) (by grind[gU]) v u.2 (text:=text) (d text m) o (by rw[n];rfl) (λa b=>by grind);generalize gl ⟨x.s.dv,g,s1.cA,s1.base⟩ text ats=W at*;obtain⟨f,q,dx,c⟩:=W;simp only at z y|-;obtain⟨c0,al2,Q,qb⟩:=z;subst c0;obtain⟨L,A,O⟩:=y ae;unfold uH;simp only[ne_eq,vQ,lE];have R:f.dv.n=x.s.dv.n:=A.wr.n;have T:f.cA=x.s.cA:=A.st.trans j;have V:kI (rQ x (f,(q,(dx,0))))=true:=by
  have fq:=t q.1 Q;have qn:q≠cH:=λe=>by grind[cH]
  have rq:fY q=true:=by unfold fY;rw[pG];right;have:=G.Ud;omega
  have:=G.Ud;have e3:iA x.ub.lD=x.ub.lD+1:=vI cw;unfold kI rQ;grind
 have U:=(Jr f.dv (rQ x (f,(q,(dx,0))))).2.2 al2 V cw;rw[cM cw];exact⟨ae,U.2,by trivial⟩
theorem X9{ts:List cD}(h:∀t∈ts,t.length<=65535)(q:cD):∀k,k<=ts.length->pq k (ts.flatMap sW++q)=some (ts.take k,(ts.drop k).flatMap sW++q)
 |0,_=>by rfl
 |k+1,hk=>by
  have a:k<ts.length:=cw;have b:=h ts[k] (lU a);unfold pq;rw[X9 h q k cw,Eg a];have tk:DE ((ts[k]::ts.drop (k+1)).flatMap sW++q)=some (ts[k],(ts.drop (k+1)).flatMap sW++q):=by
   rw[zY];have e:sW ts[k]=ts[k].length%256::ts[k].length/256::ts[k]:=rfl;rw[e];show(if ts[k].length%256+256*(ts[k].length/256)<=_ then _ else _)=_;have:ts[k].length%256+256*(ts[k].length/256)=ts[k].length:=cw
   simp_all
  simp_all
def Mx{r:cD}(h:sa ts=some r):um r=some ts:=by
 obtain⟨b,a,rfl⟩:=AL h;have e:tK ts.length++ts.flatMap sW=ts.length%256::ts.length/256:: (ts.flatMap sW++[]):=by simp[tK]
 rw[e];unfold um;simp only;have:ts.length%256+256*(ts.length/256)=ts.length:=cw;rw[this,X9 a [] ts.length (dK _)];simp
def H9:∀(ws ns rest:cD),ns.length=ws.length->fitAll ws ns=true->nZ ws (j8 ws ns++rest)=ns
 | [],[],_,_,_=>rfl
 | [],_::_,_,h,_=>by simp at h
 |_::_,[],_,h,_=>by simp at h
 |w::ws,n::ns,rest,h,g=>by
  unfold fitAll at g;simp only[aiL,pG] at g;unfold j8 nZ;have l:=fo w n;rw[wh,take_append_of_le_length cw,nz cw,pP w n g.1,drop_append_of_le_length cw,Bw cw,ot,H9 ws ns rest bG g.2]
theorem adu(s:fh):UH (qx s)=s:=by
 unfold UH qx;rw[sK];have:(UInt8.ofNat ∘ UInt8.toNat)=id:=by funext x;simp
 simp_all
def Ya:∀(l:List cy)(k:Nat),(∀q∈l,cY q/\fY q=true)->k<=l.length->rC k (oK l)=some (l.take k)
 |l,0,_,_=>rfl
 |l,k+1,h,hk=>by
  have a:k<l.length:=cw;unfold rC;rw[Ya l k h cw];simp only;have e:((oK l).drop (16*k)).take 16=gK l[k]:=by
   have d:oK l=oK (l.take k)++(gK l[k]++oK (l.drop (k+1))):=by
    unfold oK
    conv=>lhs;rw[<-zZ k l,Eg a,flatMap_append,zY]
   rw[d,drop_append_of_le_length (by rw[uA,kL];omega),Bw (by rw[uA,kL];omega),ot,take_append_of_le_length (by rw[ff];exact dK _),nz (by rw[ff];exact dK _)]
  have b:=h l[k] (lU a);rw[e,vD b.1 b.2,xf a]
theorem aal{l:List cy}(e:l.length<=4000)(c:nj l=true)(a:∀q∈l,cY q):ke (oK l)=some l:=by unfold ke;have d:=uA l;rw[cL cw,show(oK l).length/16=l.length by omega,Ya l l.length (λq b=>⟨a q b,?_⟩) (dK _),oT];simp[c];grind[uM,xR]
theorem aam(h:nS s=some t)(a:tt s):tu t=some s:=by
 unfold nS at h;split at h
 next hr=>
  have r:=(lR s).1 hr;unfold tu;rw[Mx h];simp only;have b:(j8 oL (oC s)).length=34:=(qP (ws:=oL) (ns:=oC s) ae).trans ae;rw[cM iG,take_append_of_le_length cw,nz cw,drop_append_of_le_length cw,Bw cw,ot];have g:qQ oL (j8 oL (oC s))=some (oC s):=by
   unfold qQ;have e:=H9 oL (oC s) [] ae (by
    unfold oL oC fitAll;simp only[fitAll,aiL,pG,Bool.and_true]
    grind)
   rw[vd] at e;rw[e,cL ⟨by decide,b⟩]
  rw[g,vD a.1 r.2.2.2.2.2.1,aal r.2.2.2.2.2.2.1 r.2.2.2.2.2.2.2.1 a.2,adu]
  simp_all[oC]
 cases h
theorem My:∀(l:List cR)(ts:List cD),jN l=some ts->(∀s∈l,tt s)->lO ts=some l
 | [],ts,h,_=>by grind[jN,lO]
 |s::l,ts,h,hp=>by
  unfold jN at h;split at h
  . cases h
  next t ht=>
  split at h
  . cases h
  next ts' hts=>
  cases h;unfold lO;rw[aam ht (hp s lW),My l ts' hts λx a=>hp x (jI _ a)]
theorem WL{b:dS}(h:gW b=some t)(d:∀s∈b.cE,tt s):kJ t=some (b.next,b.cE):=by
 unfold gW at h;cases a:iw b.next b.cE with
 |none=>grind
 |some t'=>
  rw[a] at h;simp only at h;split at h;cases h;cases h;have c:=a;unfold iw at a;split at a;cases a
  next hn=>
  split at a;cases a
  next ts hts=>
  have rs:=Mq b.cE;have f:ts.length=b.cE.length:=by grind
  unfold kJ;rw[Mx a];simp only[kr,headD_cons,drop_succ_cons,drop_zero];rw[cM cw];have g:qQ [8] (j8 [8] [b.next])=some [b.next]:=by have e:=H9 [8] [b.next] [] ae (by grind[fitAll]);rw[vd] at e;unfold qQ;rw[e,cL ⟨by decide,qP ae⟩]
  rw[g,My _ _ hts d];grind
theorem Uq(next:Nat):∀(l:List cR)(a:Nat)(b:List (Nat×fh)),(∀s∈l,eC s=true/\a<s.id/\s.id<next/\dE s∉b)->Bu l->(∀s t,s∈l->t∈l->dE s=dE t->s=t)->ny next a b l=true
 | [],_,_,_,_,_=>rfl
 |x::r,a,b,h,hi,hn=>by
  have c:=h x lW;unfold Bu at hi;rw[Bv] at hi;unfold ny;simp only[c.1,c.2.1,c.2.2.1,decide_true,Bool.true_and,aiL,Bool.not_eq_true'];refine⟨by grind[Cp],Uq next r x.id _ (λs d=>?_) hi.2 λs t d e=>hn s t (jI _ d) (jI _ e)⟩
  grind
theorem Good.adv{x:GT}(G:Good x)(F:Fit x):mf x.b.next x.b.cE=true:=by
 have H:x.b.next<=281474976710655:=by grind[Fit,wN,o5,lP]
 unfold mf;have C:=G.pK;rw[cM cw,aiL,qk];refine⟨Uq _ _ _ _ (λs f=>⟨F.right s f,by have:=G.vN.lt f;omega,(G.vN.lt f).2,by simp⟩) G.inc G.names,λs f=>?_⟩;rw[aiL];constructor;unfold jG;by_cases i:s.cT=0;rw[cL i,G.ti.wy f i];rfl;rw[cM i];obtain⟨p,m,e,sn,_⟩:=G.ti.pr f i;obtain⟨j,n,o⟩:=G.inc.vF m;rw[<-e,n];simp only[o,sn,Bool.true_and,aiL,qk,pG];refine⟨?_,λq A=>?_⟩;(cases h:s.cW with|false=>rfl|true=>have:=(G.vN.tH f m e).2.1 h;simp;omega);obtain⟨u,k,rfl,_⟩:=(G.ti.cO f m e).1 A;have:=(G.ti.bt m u).2;simp_all[Cv]
 . unfold iI;cases h:s.cW with
   |false=>simp
   |true=>
    (rw[cM dU];obtain⟨v,B,a,b⟩:=G.vN.own f h;obtain⟨j,n,o⟩:=G.inc.vF B;rw[<-b,n];simp only[o,a,Kd,lE,pG];rw[b];obtain⟨c,hc,u,z⟩:=G.vN.nxt f h;have w:((x.b.cE.filter λt=>decide (t.cT=s.id)).filter λt=>decide (t.cG=s.cG)).Pairwise λa b=>a.id<b.id:=(G.inc.filter _).filter _;have all:∀d∈((x.b.cE.filter λt=>decide (t.cT=s.id)).filter λt=>decide (t.cG=s.cG)),d=c:=λd g=>by obtain⟨g,E⟩:=u9.1 g;obtain⟨g,D⟩:=u9.1 g;exact G.vN.one f h g hc iG u iG z);have y:c∈((x.b.cE.filter λt=>decide (t.cT=s.id)).filter λt=>decide (t.cG=s.cG)):=u9.2 ⟨u9.2 ⟨hc,by grind⟩,by grind⟩;generalize ((x.b.cE.filter λt=>decide (t.cT=s.id)).filter λt=>decide (t.cG=s.cG))=l at*
    match l,w,all,y with
    | [_],_,_,_=>rfl
    |a::b::r,w,all,_=>
     simp_all
theorem O7(h:kI u=true)(l:cY u.gJ):jf (sg u)=some u:=by
 have i:=h;unfold kI at i;rw[pG] at i;have e:sg u=[65,81,70,82]++(pE 8 u.lD++(pE 8 u.cA++(gK u.gJ++(pE 4 u.len++(pE 4 u.fB++(replicate 80 0++pE 4 (j9 (pY u)))))))):=by rfl
 have tk:∀(a b:cD)n,a.length=n->(a++b).take n=a:=λa b n h=>by grind
 have o:∀(a b:cD)n k,a.length=n->(a++b).drop (n+k)=b.drop k:=λa b n k h=>by simp_all[drop_append]
 have j:(sg u).drop 4=pE 8 u.lD++(pE 8 u.cA++(gK u.gJ++(pE 4 u.len++(pE 4 u.fB++(replicate 80 0++pE 4 (j9 (pY u))))))):=by rfl
 have c:(sg u).drop 12=pE 8 u.cA++(gK u.gJ++(pE 4 u.len++(pE 4 u.fB++(replicate 80 0++pE 4 (j9 (pY u)))))):=by rfl
 have d:(sg u).drop 20=gK u.gJ++(pE 4 u.len++(pE 4 u.fB++(replicate 80 0++pE 4 (j9 (pY u))))):=by rfl
 have f:(sg u).drop 36=pE 4 u.len++(pE 4 u.fB++(replicate 80 0++pE 4 (j9 (pY u)))):=by rfl
 have g:(sg u).drop 40=pE 4 u.fB++(replicate 80 0++pE 4 (j9 (pY u))):=by rfl
 have m:EN (sg u) u.gJ=u:=by unfold EN;rw[j,c,f,g,tk _ _ 8 (fo 8 u.lD),tk _ _ 8 (fo 8 u.cA),tk _ _ 4 (fo 4 u.len),tk _ _ 4 (fo 4 u.fB),pP 8 _ cw,pP 8 _ cw,pP 4 _ cw,pP 4 _ cw]
 unfold jf;rw[d,tk _ _ 16 (ff u.gJ),vD l i.2.2.2.2.1];simp only;rw[m];unfold lf;rw[cL h];simp
theorem aan{l:List qi}(g:u∈l)(h:∀v∈l,v=u∨v.lD<u.lD):(nR l).getLast?=some u:=by
 have c:=(Sort.insertionSort_holds ab3 l.toArray 0 l.toArray.size (fN _) (dK _));have a:=qV l;have f:=c.2;have sz:=c.1.1;have e:(nR l).toArray=Sort.insertionSort (ltOf λx y:qi=>FG x.lD y.lD) l.toArray 0 l.toArray.size:=by rfl
 rw[<-e] at f;have b:=a.mem_iff.2 g;have d:nR l≠ []:=ne_nil_of_mem b;rw[getLast?_eq_getLast d];congr 1;obtain⟨i,k,j⟩:=yk b;have n:=a.length_eq;rcases h _ (a.mem_iff.1 (getLast_mem d)) with h1|h1;exact h1;exfalso;by_cases m:i=(nR l).length-1;grind;have:=f i ((nR l).length-1) (fN _) cw sp_;grind[ltOf,FG]
structure Ring(D:Nat->cD)(u:qi):Prop where
 here:D (u.lD%4)=sg u
 right:kI u=true
 parts:cY u.gJ
 iV:∀i,i<4->i≠u.lD%4->∀v,jf (D i)=some v->v.lD%4=i->v.lD<u.lD
theorem aao{d:Dv}(R:Ring d.nw u)(n:d.cO=false)(z:4<=d.n):(eZ d).2=some u/\Wr (λ_=>False) d (eZ d).1/\(eZ d).1.cO=false:=by
 have b:∀(k:Nat),k<=4->Wr (λ_=>False) d (jq d k).1/\(jq d k).1.cO=false/\(∀v∈(jq d k).2,v=u∨v.lD<u.lD)/\(u.lD%4<k->u∈(jq d k).2):=by intro k;induction k with|zero=>intro _;exact⟨.refl _,n,by simp[jq],cw⟩|succ k ih=>(intro y;obtain⟨a,m,j,f⟩:=ih cw;have e:jq d (k+1)=qy (jq d k) k:=by grind[jq,range_succ]);(rw[e];generalize jq d k=x at*;obtain⟨d',l⟩:=x;simp only at a m j f;have wr:=XY (A:=λ_=>False) d' (k:Int);have c:(fZ d' (k:Int)).1.cO=false:=by grind[fZ,eG]);(have p:(fZ d' (k:Int)).2=(d.nw k,0):=by unfold fZ PG;rw[cL (by rw[a.n];simp;omega),cM (by rw[m];simp)];simp[a.nw id]);unfold qy;simp only[p];rw[cM dU];by_cases g:k=u.lD%4;rw[g,R.here,O7 R.right R.parts];simp only[nI];refine⟨a.trans (g▸wr),g▸c,λv B=>?_,λ_=>Ej _ lW⟩;grind;cases o:jf (d.nw k) with|none=>exact⟨a.trans wr,c,j,λh=>f cw⟩|some v=>simp only;split;(next h5=>refine⟨a.trans wr,c,λw i=>?_,λh=>mem_append_left _ (f cw)⟩;rcases fL.1 i with i|i;grind;rw[eV.1 i];exact .inr (R.iV k cw g v o h5));exact⟨a.trans wr,c,j,λh=>f cw⟩
 obtain⟨q,r,s,t⟩:=b 4 (dK _);exact⟨aan (t (mod_lt _ jR)) s,q,r⟩
theorem WM{u:Pl}(b:u.dv.cO=false)(e:t.length=40)(f:q≠cH)(c:q.1<u.dv.n)(h:u.dv.nw q.1=oe t)(hc:q.2.2=j9 (u.dv.nw q.1)):∃v,dP u q 40=(v,(t,[q],0))/\PW (λ_=>False) u v/\v.mp=u.mp/\v.dv.cO=false:=by
 have g:=Wl (q:=q) b (.inr ⟨c,hc.symm⟩);have a:=Q1 (A:=λ_=>False) u q;have j:jV 40=[1]:=by decide
 have k:oM u [q]=((fD u q).1,(oe t,0)):=by simp_all[oM,jw,Jn]
 have i:eo u [q] 40=((fD u q).1,(t,0)):=by simp_all[eo,oe]
 refine⟨(fD u q).1,?_,a.1,a.2,(by grind[fD,fZ,eG])⟩;unfold dP;rw[cM iG];have d:qG 40=[]:=by rfl
 grind
theorem WO(c:cy)(a:Nat)(d:cy)(b:Nat):(zU c a d b).take 20=gK c++pE 4 a/\(zU c a d b).drop 20=gK d++pE 4 b:=by unfold zU;grind[ff,fo,take_left,drop_left]
theorem Ur{u:Pl}{p:cy}(b:cY p)(c:fY p=true)(a:n<4294967296):iX u (gK p++pE 4 n)=dP u p (n:Nat):=by grind[ff,iX,vD,pP]
theorem aap{D:Nat->cD}{m:Nat->Nat}{b:dS}(L:Laid D n st q text (kA m 2) dx ats)(K:rR n m)(j:64<=n/\n<=1024)(O:gW b=some text)(M:∀s∈b.cE,tt s)(J:mf b.next b.cE=true){u:Pl}(I:u.dv.cO=false)(i:u.dv.n=n)(uw:∀a∈ats,u.dv.nw a=D a):∃v,ji u q=(v,(b,(kA m 2,(dx,0))))/\PW (λ_=>False) u v/\v.mp=u.mp/\v.dv.cO=false:=by
 obtain⟨⟨p,r,l,mm,g,a1,a2,e,V,X,R,T,hD,hc,lt,N,z,A,G,t,w,U⟩,_,_⟩:=L;obtain⟨Y,c,d⟩:=Mw j.1 j.2 K;rw[e] at c;cases c;have sl:=GI e;have tl:text.length<=65535:=by grind[gW]
 have h:g.length<4294967296:=by grind[fc]
 obtain⟨Z,C,w1,Q,B⟩:=WM (u:=u) (q:=q) I (X3 p text.length r g.length) N cw iG iG;obtain⟨v2,E,f,k⟩:=z.load Z B ((w1.wr.n).trans i) λa H=>by rw[w1.nn];grind
 obtain⟨v3,F,y,o⟩:=A.load v2 k.2 ((f.wr.n).trans ((w1.wr.n).trans i)) λa H=>by rw[f.nn,w1.nn];grind
 have x:=WO p text.length r g.length;refine⟨v3,?_,(w1.trans f).trans y,(o.1.trans k.1).trans Q,o.2⟩;unfold ji;rw[C];simp only[ne_eq,vQ,lE];unfold ml1;simp only[x.1];rw[Ur R V cw,E];simp only[ne_eq,vQ,lE];unfold ml2;simp only[x.2];rw[Ur T X h,F];simp only[ne_eq,vQ,lE];unfold ml3;simp only[WL O M,J,(y.wr.n).trans ((f.wr.n).trans ((w1.wr.n).trans i)),d];rw[cM dU,G]
abbrev vL:=fh×(Nat×(Nat×fh))
def CB(i:vL):Nat->cI:=λj=>if j=0 then .string i.1 else if j=1 then .int .i64 i.2.1 else if j=2 then .int .i64 i.2.2.1 else .string i.2.2.2
def Ds(i:vL):∀j,(CB i j).oneCell'=true:=by intro j;unfold CB;split;rfl;split;rfl;split<;>rfl
instance in1942d(i:vL):OF (CB i):=⟨Ds i⟩
def Yb(i:vL):List cI:=(ct 4 (CB i)).toList
def CD(l:List vL):List cI:=l.flatMap Yb
def yh(l:List cR)(s:cR):vL:=(qf l s.id,(s.blocks,(s.cO.length,if s.cW=true then qz else qf l (sJ l s.id).2)))
def kR(x:GT):List vL:=x.b.cE.map (yh x.b.cE)
theorem Mz(l:List vL)(i:vL):CD (l++[i])=CD l++(ct 4 (CB i)).toList:=by grind[CD,Yb]
def adw:(#[.string ⟨#[]⟩,.int .i64 0,.int .i64 0,.string ⟨#[]⟩]:fJ)=ct 4 (CB (qz,(0,(0,qz)))):=rfl
instance in5b630 :ZR 52 4 (CB (qz,(0,(0,qz)))):=⟨_,zeroValue52,adw⟩
def ahd:jF prog 52 4:=⟨⟨_,underlying52,ae⟩,cX⟩
instance in00884 :rB 52 4:=⟨ahd⟩
def ahe:(prog.info? 52).map (λi=>(i.zero,i.size,i.bytes))=some (some (.agg #[.string ⟨#[]⟩,.int .i64 0,.int .i64 0,.string ⟨#[]⟩]),4,48):=cX
def Vx:vT prog 24 52 4 48:=⟨underlying24,_,ahe,ae,cw⟩
section
attribute[local irreducible]wpList Code.wp Calls Oper.wp wpAnyH
def Rf(K D G M:Nat)(g:gX)(s:Pl)(ht:eQ g.b.t)(w:cB)(h:vX w K G g D M s):
 CP_ 12 #[.pointer (some ⟨K,0,none⟩)] w λe w'=>∃r,e=.returned r/\w'.ownsRow w.heap.size 52 4 r (kR (g.gt s)).length (CD (kR (g.gt s)))/\dz w w':=by
 have H0:=cq h;have S:=pF w;have C1:=cq λW(hb:dz w W)=>kP G D M g s ht.fit W (h.I8.cx hb);have Q:=cq ht;obtain⟨T,U⟩:=q8 (kR (g.gt s));rw[U.o];clear h ht;go_enter func12,ntmps12;go_upto_region 4 with(first|refine yi (v:=cZ G 0) (cu.cell (cu.cx H0.o.row S.b) (i:=0) cw) ?_|(refine(C1.o _ S.b).mono ?_;rintro e W ⟨B,rfl,⟨⟨cn,a,l,d⟩,rfl,hc,ho⟩,hb⟩;have HC:=cq hc;replace S:=S.TT hb ho;clear hb hc;rw[show ct 2 (dk ⟨cn,a,l,d⟩)=#[.int .u64 cn,.slice l a.length d] from ae];have Y:=λW=>OR cn l a.length d W));have a1:Hid (0<a.length->∃b o,l=s_ b o):=cq λhn=>by obtain⟨Z,cap,t,-,h3⟩:=du S.x.2.1.1;simp only[dD.sv,kM] at t;obtain⟨b,o,h4⟩:=h3 hn;exact⟨b,o,t.1.trans h4⟩
 have f:g.b.t.cE=dJ a:=by rw[<-HC.o];rfl
 have HL:=cq (show T=(dJ a).map (yh (dJ a)) from by rw[<-U.o];unfold kR;rw[show(g.gt s).b=g.b.t from ae,f]);have y:a.length<=1000000:=by have t:=Q.o.fit.1;rw[f,gj] at t;exact t
 have u:qe a:=by have t:=Q.o.fit.2;rw[f] at t;exact t
 have C2:=cq λid W R=>acb a (.slice l a.length d) id y u W R;have C3:=cq λid W R=>Ld a (.slice l a.length d) id y W R;replace S:=S.Hi 52 4 ae ae;change St w none [] [] _ (λB w=>True/\qA (.slice l a.length d) a B w) W at S;have HS:=cq S;clear u f S Y;go_loopw [4,16] (λlv kv wr=>∃(k:Nat)(Z:Option Addr)(c:Nat),k<=a.length/\kv=.int .i64 k/\lv=.slice Z k c/\Hid (∃L,St w none [] L [⟨52,4,.slice Z k c,k,CD (((dJ a).take k).map (yh (dJ a)))⟩] (λB w=>True/\qA (.slice l a.length d) a B w) wr)) (λ_ kv _=>a.length-(intOf kv).toNat);exact⟨0,none,0,cw,ae,ae,cq ⟨_,HS.o⟩⟩;clear HS;obtain⟨k,Z,c,hk,rfl,rfl,hS⟩:=hrel;obtain⟨L,S⟩:=hS.o;clear hS;by_cases p:k<a.length
 . obtain⟨C,J,rfl⟩:=a1.o cw;obtain⟨x,hx⟩:=c8 (a[k]);have I:a[k]?=some x:=by rw[iz p,hx]
   have N:=cq I;have n:=cq p;have HT:=cq (show((dJ a).take (k+1)).map (yh (dJ a))=((dJ a).take k).map (yh (dJ a))++[yh (dJ a) x.tocR] from by
    rw[xf (by rw[gj];exact p),mI];congr 1;have V:(dJ a)[k]?=some x.tocR:=by rw[l9,I];rfl
    rw[iz (by rw[gj];exact p)] at V;rw[ve V];rfl)
   obtain⟨O,F⟩:=c8 (qf (dJ a) x.id);have C4:=cq (C2.o x.id);rw[F] at C4;obtain⟨og,H⟩:=c8 ((sJ (dJ a) x.id).2);have C5:=cq (C3.o x.id);rw[H] at C5;obtain⟨q,m⟩:=c8 (qf (dJ a) og);have C6:=cq (C2.o og);rw[m] at C6;obtain⟨sp,z⟩:=q8 x.cW;have HI:=cq (show yh (dJ a) x.tocR=(O,(x.blocks,(x.cO.length,if sp=true then qz else q))) from by
    unfold yh;rw[show x.tocR.id=x.id from ae,F,H,m,<-z.o])
   obtain⟨A,HA⟩:=xm (ct 4 (CB (O,(x.blocks,(x.cO.length,qz)))));obtain⟨A2,a3⟩:=xm (ct 4 (CB (O,(x.blocks,(x.cO.length,q)))));clear hx I F H m;go_upto_region 7 with(fail);refine Lm S cX [] (by intro r hr;cases hr) λW S=>?_;refine cJ 0 _ ?_;refine cJ 1 _ ?_;refine cJ 2 (cZ C (J+k*11)) ?_;refine cJ 3 (cZ C (J+k*11)) ?_;refine fW 4 (.int .u64 x.id) ae (fR (λw h=>by obtain⟨_,_,S,_⟩:=h;exact(S.x.2.sl.at N.o).c0) ae fg) ?_;refine cJ 6 _ ?_;refine cJ 7 (cZ C (J+k*11)) ?_;refine cJ 8 (cZ C (J+k*11+6)) ?_;refine fW 9 (.int .i64 x.blocks) ae (fR (λw h=>by obtain⟨_,_,S,_⟩:=h;exact(S.x.2.sl.at N.o).c6) ae BU) ?_;refine cJ 10 _ ?_;refine cJ 11 (cZ C (J+k*11)) ?_;refine cJ 12 (cZ C (J+k*11+10)) ?_;refine fW 13 (.slice x.dO x.cO.length x.cap) ae (fR (λw h=>by obtain⟨_,_,S,_⟩:=h;exact(S.x.2.sl.at N.o).c10) ae nk) ?_;refine cJ 14 (.int .i64 x.cO.length) ?_;repeat' first|refine Rp ?_|refine nv_ 15 (.agg A) ae (xO ae ako) ?_|refine zX 5 16 (λK E=>?_) λK E=>?_|refine oJ 5 λK E=>?_|refine oJ 17 λK E=>?_|refine oJ 16 λK E=>?_|(refine fu S zeroValue52 adw ae λE7 W S=>?_;refine fC E ?_)|(go_wp2_with fail;refine je S (C4.o _ S.x.2.sl) λW S=>?_;refine fC E ?_)|(refine ju S 0 ae ae ae HA.o ahd (Ds _) λW S=>?_;refine fC E ?_)
   all_goals(
    refine cq ?_;have a2:=λ(W:cB)(X:qA (.slice (s_ C J) a.length d) a [] W)=>gI;clear a2;cases sp with
    |true=>
     go_wp2_with first|refine iB (v:=.bool true) (by rw[(S.x.2.sl.at N.o).c2,z.o]) ae rZ ?_|refine rK S 0 rfl 0 rfl rfl rfl rfl Vx (Ds _) Br wR λg9 c9 W S=>?_|refine eR ?_|refine ey λW S=>?_
     rw[<-Mz] at S;go_roundw
     case rel=>
      have:=n.o;have hI:yh (dJ a) x.tocR=(O,(x.blocks,(x.cO.length,qz))):=HI.o;rw[<-hI,<-HT.o] at S;exact akN
     case measure=>have:=n.o;simp[intOf];omega
    |false=>
     go_wp2_with first|refine iB (v:=.bool false) (by rw[(S.x.2.sl.at N.o).c2,z.o]) ae rZ ?_|refine yi (S.x.2.sl.at N.o).c0 ?_|refine je S (C5.o _ S.x.2.sl) λW S=>?_|refine je S (C6.o _ S.x.2.sl) λW S=>?_|refine vU S 0 rfl 3 (CB (O,(x.blocks,(x.cO.length,q)))) (λj hj=>by rcases j with(_|_|_|_|j)<;>first|rfl|(exfalso;have hj:j+4<4:=hj;omega)) pR rfl rfl rfl ET λW S=>?_|refine rK S 0 rfl 0 rfl rfl rfl rfl Vx (Ds _) Br wR λg9 c9 W S=>?_|refine eR ?_|refine ey λW S=>?_
     rw[<-Mz] at S;go_roundw
     case rel=>
      have:=n.o;have hI:yh (dJ a) x.tocR=(O,(x.blocks,(x.cO.length,q))):=HI.o;rw[<-hI,<-HT.o] at S;exact akN
     case measure=>have:=n.o;simp[intOf];omega)
 . obtain rfl:k=a.length:=cw;have HE:=cq (show((dJ a).take a.length).map (yh (dJ a))=T from by rw[<-gj,oT,HL.o]);go_wp2;go_ret;have V:=S.o0;rw[HE.o] at V;exact⟨_,ae,by rw[show T.length=a.length from by rw[HL.o,lV,gj]];exact V,S.b⟩
end
structure Inv(x:GT):Prop where
 uL:Good x
 fit:Fit x
 al:x.s.dv.al
structure Far(x y:GT)(k:Nat):Prop where
 ub:y.ub=x.ub
 n:y.s.dv.n=x.s.dv.n
 st:y.s.cA<=x.s.cA+k
 nx:y.b.next<=x.b.next+k
 ring:∀a,a<4->y.s.dv.nw a=x.s.dv.nw a
theorem Far.trans{x y z:GT}{a b:Nat}(h:Far x y a)(g:Far y z b):Far x z (a+b):=
 ⟨g.ub.trans h.ub,g.n.trans h.n,by have:=h.st;have:=g.st;omega,by have:=h.nx;have:=g.nx;omega,λi c=>(g.ring i c).trans (h.ring i c)⟩
def adx{x:GT}(G:Good x)(g:GW x y)(s:Um x y):Far x y 1:=
 ⟨s.ub,g.2.n,s.st.2,s.nx,λa b=>g.2.nw λh=>by have:=(G.map a).2.1 cw;omega⟩
def we:List fh->GT->Option GT
 | [],x=>some x
 |n::l,x=>if(dB x (dQ n)).2≠0/\(dB x (dQ n)).2≠173/\(dB x (dQ n)).2≠172 then none else we l (dB x (dQ n)).1
theorem Jv{x:GT}(I:Inv x){n:fh}{p:fh×fh}(b:dG n=some p):
 ((dB x (dQ n)).2=0∨(dB x (dQ n)).2=172∨(dB x (dQ n)).2=173)/\Inv (dB x (dQ n)).1/\Far x (dB x (dQ n)).1 1/\((dB x (dQ n)).2=0/\(dB x (dQ n)).1.b.cE.length+1=x.b.cE.length∨(dB x (dQ n)).2≠0/\(dB x (dQ n)).1.b=x.b/\¬aak x.b n):=by
 have g:=Ed I.uL n;have c:=Rc I.uL I.fit I.al.1 b;have e:dB x (dQ n)=uI x (dQ n x):=by unfold dB;rw[cM (by rw[I.al.1];simp)]
 refine⟨?_,⟨g.1,GK I.uL I.fit n,g.2.al I.al⟩,adx I.uL g (GL x n),?_⟩<;>rw[e]<;>unfold uI;grind;split;(next h=>exact .inr ⟨h,ae,λa=>h (c.2.1 a)⟩);grind
theorem O8:∀(l:List fh)(x:GT),Inv x->(∀n∈l,∃p,dG n=some p)->∃y,we l x=some y/\Inv y/\Far x y l.length/\y.b.cE.length<=x.b.cE.length/\((∃n∈l,aak x.b n)->y.b.cE.length<x.b.cE.length)
 | [],x,I,_=>⟨x,ae,I,⟨ae,ae,by simp,by simp,λ_ _=>ae⟩,dK _,by simp⟩
 |n::l,x,I,h=>by
  obtain⟨p,j⟩:=h n lW;obtain⟨c,a,f,d⟩:=Jv I j;obtain⟨y,e,b,g,o,q⟩:=O8 l (dB x (dQ n)).1 a λm i=>h m (jI _ i);have k:=f.trans g;refine⟨y,?_,b,by grind,?_,?_⟩
  . unfold we;grind
  . grind
  grind
def tJ:Nat->GT->Option GT
 |0,x=>some x
 |k+1,x=>(we ((kR x).map Prod.fst) x).bind (tJ k)
theorem MA:∀(k:Nat)(x:GT),Inv x->∃y,tJ k x=some y/\Inv y/\Far x y (32*k)/\(x.b.cE.length<=k->y.b.cE=[])
 |0,x,I=>⟨x,ae,I,⟨ae,ae,by simp,by simp,λ_ _=>ae⟩,λh=>wj cw⟩
 |k+1,x,I=>by
  have m:∀n∈(kR x).map Prod.fst,∃p,dG n=some p:=λn a=>by
   unfold kR at a;rw[sK] at a;obtain⟨t,b,rfl⟩:=fM.1 a;obtain⟨_,p,_,_,e,_⟩:=I.uL.cC I.fit b;exact⟨p,e⟩
  obtain⟨y,e,c,f,r,j⟩:=O8 _ x I m;obtain⟨z,o,d,g,l⟩:=MA k y c;have u:((kR x).map Prod.fst).length=x.b.cE.length:=by grind[kR]
  have q:=I.uL.pK;refine⟨z,by grind[tJ],d,?_,λs=>l ?_⟩
  . have:=f.trans g;exact⟨this.ub,this.n,by have:=this.st;omega,by have:=this.nx;omega,this.ring⟩
  . by_cases i:x.b.cE=[]
    . grind
    . obtain⟨t,b,hc⟩:=I.uL.ads I.fit i;have:=j ⟨_,by unfold kR;rw[sK];exact fM.2 ⟨t,b,ae⟩,hc⟩;omega
def MC(k:Int)(i:Nat):Bool:=
 if i=0 then decide (0<=k/\k<=8) else if i=1 then decide (k=5) else if i=2 then decide ((0<=k/\k<=3)∨k=10∨k=12) else if i=3 then decide (k=1∨k=12) else decide (k=11)
def kindOk(k:Int):Bool:=decide (0<=k/\k<=12)
def Rg(p:Nat->Bool):Nat->cI:=λi=>.bool (p i)
def WQ(p:Nat->Bool):∀i,(Rg p i).oneCell'=true:=λ_=>ae
instance incb23c(p:Nat->Bool):OF (Rg p):=⟨WQ p⟩
def XA:(#[.bool false,.bool false,.bool false,.bool false,.bool false]:fJ)=ct 5 (Rg λ_=>false):=rfl
instance in9169f :ZR 272 5 (Rg λ_=>false):=⟨_,zeroValue272,XA⟩
def aio:jF prog 272 5:=⟨⟨_,underlying272,ae⟩,cX⟩
instance in70151 :rB 272 5:=⟨aio⟩
def abZ:prog.built 272 []=some #[.bool false,.bool false,.bool false,.bool false,.bool false]:=cX
section
variable {x:Nat}{ty:dC}
end
structure OpT where
 kind:Int
 name:fh
 toN:fh
 n:Int
 data:cD
 fV:List Bool
structure Rs extends OpT where
 da:Option Addr
 dc:Nat
 ka:Option Addr
 kc:Nat
def opF(o:Rs):Nat->cI:=λi=>if i=0 then .int .i64 o.kind else if i=1 then .string o.name else if i=2 then .string o.toN else if i=3 then .int .i64 o.n else if i=4 then .slice o.da o.data.length o.dc else .slice o.ka o.fV.length o.kc
def afw(o:Rs):∀i,(opF o i).oneCell'=true:=by intro i;unfold opF;split;rfl;split;rfl;split;rfl;split;rfl;split<;>rfl
instance inea6f6(o:Rs):OF (opF o):=⟨afw o⟩
def aip(w:cB)(b o:Nat)(x:Rs):Prop:=∀k,k<6->w.cell? ⟨b,o+k,none⟩=some (opF x k)
section
variable {o:Nat}{x:Rs}
def aip.c0(h:aip w b o x):w.cell? ⟨b,o,none⟩=some (.int .i64 x.kind):=h 0 cw
end
def adA(o:OpT):Bool:=
 kindOk o.kind&& ((MC o.kind 0||decide (o.name=qz))&& (decide (o.name.size<=60)&& ((MC o.kind 1||decide (o.toN=qz))&& (decide (o.toN.size<=60)&& ((MC o.kind 2||decide (o.n=0))&& (decide (-1<=o.n)&& (decide (o.n<=65534)&& ((MC o.kind 3||decide (o.data.length=0))&& (decide (o.data.length<=129)&& ((MC o.kind 4||decide (o.fV.length=0))&&decide (o.fV.length<=64)))))))))))
def aiq:kB prog 39:=⟨⟨_,underlying39,ae⟩,cX⟩
instance in197e3 :pS 39:=⟨aiq⟩
structure ajV(o:OpT):Prop where
 kind:0<=o.kind/\o.kind<=12
 name:o.name.size<=60
 toN:o.toN.size<=60
 n: -1<=o.n/\o.n<=65534
 data:o.data.length<=129
 fV:o.fV.length<=64
structure ajb where
 adB:Int
 ops:List OpT
structure ajB(s:ajb):Prop where
 adB:64<=s.adB/\s.adB<=1024
 pK:s.ops.length<=200
 op:∀o∈s.ops,adA o=true
def opE(x:Rs):List cI:=(ct 6 (opF x)).toList
def Yc(x:Rs):(opE x).length=6:=by rfl
def opC(l:List Rs):List cI:=l.flatMap opE
structure aaq where
 adB:Int
 l:List Rs
 dO:Option Addr
 cap:Nat
def aaq.sv(s:aaq):cI:=.slice s.dO s.l.length s.cap
def adC(s:aaq):Nat->cI:=λi=>if i=0 then .int .i64 s.adB else s.sv
def adD(s:aaq):∀i,(adC s i).oneCell'=true:=by intro i;unfold adC;split<;>rfl
instance in9322e(s:aaq):OF (adC s):=⟨adD s⟩
def Yd:aaq:=⟨0,[],none,0⟩
def adE:Rs:=⟨⟨0,qz,qz,0,[],[]⟩,none,0,none,0⟩
def abT:(#[.int .i64 0,.slice none 0 0]:fJ)=ct 2 (adC Yd):=rfl
instance in1dcef :ZR 32 2 (adC Yd):=⟨_,zeroValue32,abT⟩
def abU:(#[.int .i64 0,.string ⟨#[]⟩,.string ⟨#[]⟩,.int .i64 0,.slice none 0 0,.slice none 0 0]:fJ)=ct 6 (opF adE):=rfl
instance in80665 :ZR 41 6 (opF adE):=⟨_,zeroValue41,abU⟩
def ajd:jF prog 32 2:=⟨⟨_,underlying32,ae⟩,cX⟩
instance inf2ec7 :rB 32 2:=⟨ajd⟩
def aje:jF prog 41 6:=⟨⟨_,underlying41,ae⟩,cX⟩
instance ina6a03 :rB 41 6:=⟨aje⟩
def aeD:prog.built 32 []=some #[.int .i64 0,.slice none 0 0]:=cX
def aeE:prog.built 41 []=some #[.int .i64 0,.string ⟨#[]⟩,.string ⟨#[]⟩,.int .i64 0,.slice none 0 0,.slice none 0 0]:=cX
def ais:kB prog 30:=⟨⟨_,underlying30,ae⟩,cX⟩
instance in66103 :pS 30:=⟨ais⟩
def ahf:(prog.info? 41).map (λi=>(i.zero,i.size,i.bytes))=some (some (.agg #[.int .i64 0,.string ⟨#[]⟩,.string ⟨#[]⟩,.int .i64 0,.slice none 0 0,.slice none 0 0]),6,96):=cX
def agu:vT prog 30 41 6 96:=⟨underlying30,_,ahf,ae,cw⟩
def ajf:kB prog 5:=⟨⟨_,xI,ae⟩,cX⟩
instance in6ae8b :pS 5:=⟨ajf⟩
section
end
abbrev StT:=Dv ⊕ GT
def zV(x:GT)(o:OpT):GT×(cD×Int):=
 let put (r:GT×Int):GT×(cD×Int):=(r.1,(eP,r.2))
 if o.kind=0 then put (dB x (mH o.name o.n))
 else if o.kind=1 then put (dB x (nF o.name o.n o.data))
 else if o.kind=2 then put (dB x (sD o.name o.n))
 else if o.kind=3 then uJ o.name o.n x
 else if o.kind=4 then put (dB x (vB o.name))
 else if o.kind=5 then put (dB x (qJ o.name o.toN))
 else if o.kind=6 then put (dB x (lQ o.name))
 else if o.kind=7 then put (dB x (tE o.name))
 else if o.kind=8 then put (dB x (dQ o.name))
 else if o.kind=9 then put (dB x iR)
 else(x,(eP,0))
def ahg:StT->Dv
 | .inl d=>d
 | .inr x=>x.s.dv
def JP(K D:Nat)(x:GT):cD->cB->Prop:=λB w=>∃G g M,ye K G g D M x.s B w/\g.gt x.s=x/\eU x.dx
def wP(K D:Nat)(x:GT):kK (some D) (JP K D x):=
 ⟨λ⟨G,g,M,h,e⟩ b=>⟨G,g,M,(jy K G g D M x.s).cx h b,e⟩,λ⟨G,g,M,h,e⟩ b=>⟨G,g,M,(jy K G g D M x.s).add h b,e⟩,λ⟨G,g,M,h,e⟩ b=>⟨G,g,M,(jy K G g D M x.s).mono h b,e⟩,
  λ⟨G,g,M,h,e⟩ b c t u v=>⟨G,g,M,(jy K G g D M x.s).but h b c t u v,e⟩,λ⟨G,g,M,h,_⟩ f=>(jy K G g D M x.s).dev h f⟩
def JP.at{x:GT}(h:JP K D x B w):eK w K D x:=by obtain⟨G,g,M,a,e⟩:=h;exact⟨G,g,M,a.at,e⟩
def eK.xB{x:GT}(h:eK w K D x)(c:∀b∈B,gx w b≠some 109/\gx w b≠some 106):JP K D x B w:=by obtain⟨G,g,M,a,e⟩:=h;exact⟨G,g,M,⟨a.I8.xB c,a.row⟩,e⟩
def eK.x{x:GT}(h:eK w K D x):JP K D x [] w:=h.xB λ_ h=>absurd h iS
def eK.dev{x:GT}(h:eK w K D x):iK w D x.s.dv:=by obtain⟨G,g,M,a,e⟩:=h;exact a.I8.kq.dev
def ait(D:Nat)(d:Dv):cD->cB->Prop:=λ_ w=>iK w D d
def stX(D:Nat)(s:StT)(v:cI):cD->cB->Prop:=λB w=>match s with
 | .inl d=>v=.pointer none/\ait D d B w
 | .inr x=>∃K,v=.pointer (some ⟨K,0,none⟩)/\JP K D x B w
def adF(w:cB)(D:Nat)(s:StT)(v:cI):Prop:=match s with
 | .inl d=>v=.pointer none/\iK w D d
 | .inr x=>∃K,v=.pointer (some ⟨K,0,none⟩)/\eK w K D x
def kK.imp{p:Prop}(h:kK d X):kK d (λB w=>p/\X B w):=
 ⟨λa b=>⟨a.1,h.cx a.2 b⟩,λa b=>⟨a.1,h.add a.2 b⟩,λa b=>⟨a.1,h.mono a.2 b⟩,λa b c t u f=>⟨a.1,h.but a.2 b c t u f⟩,λa f=>h.dev a.2 f⟩
def afx(D:Nat)(s:StT)(v:cI):kK (some D) (stX D s v):=by cases s with|inl d=>exact(show kK (some D) (ait D d) from fG D d).imp|inr x=>exact⟨λ⟨K,e,h⟩ b=>⟨K,e,(wP K D x).cx h b⟩,λ⟨K,e,h⟩ b=>⟨K,e,(wP K D x).add h b⟩,λ⟨K,e,h⟩ b=>⟨K,e,(wP K D x).mono h b⟩,λ⟨K,e,h⟩ b c t u f=>⟨K,e,(wP K D x).but h b c t u f⟩,λ⟨K,_,h⟩ f=>(wP K D x).dev h f⟩
def adF.xB{s:StT}(h:adF w D s v)(a:∀b∈B,gx w b≠some 109/\gx w b≠some 106):stX D s v B w:=by cases s with|inl d=>exact h|inr x=>obtain⟨K,e,h⟩:=h;exact⟨K,e,h.xB a⟩
def adF.dev{s:StT}(h:adF w D s v):iK w D (ahg s):=by cases s with|inl d=>exact h.2|inr x=>obtain⟨K,e,h⟩:=h;exact h.dev
section
theorem St.aiu(S:St w0 (some D) l L O X w){s:StT}(h:adF w' D s v)(f:Fr (some D) l2 w w')(d:∀k∈l2,k∈l∨w0.heap.size<=k)(i:∀r∈L,r.t≠109/\r.t≠106)(j:∀o∈O,o.e≠109/\o.e≠106):St w0 (some D) l L O (stX D s v) w':=by have a:=S.LO f (λ_ e=>e) d (fG D (ahg s)) h.dev;refine a.Wg (afx D s v) (h.xB λb c=>?_);rcases gy.1 c with⟨r,g,rfl⟩|⟨o,ho,e⟩;rw[cu.ty (a.row r g).1];grind;rw[uQ (a.own o ho).1 e];grind
theorem St.zi(S:St w0 (some D) l L O X w){x:GT}(h:eK w' K D x)(f:Fr (some D) l2 w w')(d:∀k∈l2,k∈l∨w0.heap.size<=k)(b:∀r∈L,r.t≠109/\r.t≠106)(c:∀o∈O,o.e≠109/\o.e≠106):St w0 (some D) l L O (JP K D x) w':=
 (St.aiu (s:=.inr x) S ⟨K,ae,h⟩ f d b c).Wg (wP K D x) (by
  have a:=(St.aiu (s:=.inr x) S ⟨K,ae,h⟩ f d b c).x;obtain⟨g,e,a⟩:=a
  grind)
end
def adG(r:cD×Int):Nat->cI:=λi=>if i=0 then .int .i64 r.2 else cN r.1 (i-1)
def adH(r:cD×Int):∀i,(adG r i).oneCell'=true:=by intro i;unfold adG;split;rfl;rfl
instance inbc77e(r:cD×Int):OF (adG r):=⟨adH r⟩
def ajh:jF prog 38 129:=⟨⟨_,underlying38,ae⟩,cX⟩
instance in91779 :rB 38 129:=⟨ajh⟩
def abV:zeroCells38=ct 129 (adG (eP,0)):=cX
instance ind4ac6 :ZR 38 129 (adG (eP,0)):=⟨_,zeroValue38,abV⟩
section
variable {x y:Nat}{ty:dC}
end
def afy{d:Dv}(h:iK w D d):∃l,xA w D d l:=by obtain⟨a,e,c,pv,b⟩:=h;exact⟨_,a,e,c,pv,b,ae⟩
def Us(D:Nat)(d:Dv)(ho:d.ops<=1000000000)(v:cI)(fV:List Bool)(m:cD)(w:cB)(a:iK w D d)(c:KH w v fV):
 CP_ 16 #[.pointer (some ⟨D,0,none⟩),v] w λe w'=>e=.returned (.tuple #[])/\iK w' D (wD d fV)/\Fr (some D) m w w':=by obtain⟨l,b⟩:=afy a;exact(abt D d l ho v fV w b c).mono λe w' ⟨he,hs⟩=>⟨he,hs.shut,hs.fr b m⟩
def aeF:prog.built 38 []=some zeroCells38:=cX
section
variable {x y:Nat}
end
structure ajW(s:StT):Prop where
 ops:(ahg s).ops<=990000000
 ok:∀x,s=.inr x->E0 x
def kg(n:Nat):Dv:=⟨n,λ_=>eP,λ_=>eP,[],0,-1,false⟩
def Ut(n:Nat):pH (kg n):=⟨λ_=>vr,λ_=>vr,λp h=>absurd h iS,dK _,aj1,⟨aj1,aj1⟩⟩
structure TrT where
 rs:List (cD×Int)
 ls:List vL
 room:Nat
 down:Bool
theorem ahh{x:GT}(h:sE x N)(b:pH x.s.dv)(c:gU x.s.cA)(o:OpT):sE (zV x o).1 (N+20000):=by have a:=fun {k:GT->GT×Int} (d:sE (k x).1 (N+9))=>Dn h (k:=k) (d.le cw);unfold zV;split;exact a ((OS h _ _).le cw);split;exact a ((T3 h b c _ _ _).le cw);split;exact a ((afh h b c _ _).le cw);split;exact(ac0 h _ _).le cw;split;exact a ((afe h _).le cw);split;exact a ((acY h _ _).le cw);split;exact a ((Wj h _).le cw);split;grind[aff];split;grind[L8];split;grind[Dn,T4];exact h.le cw
def adI{d:Dv}(h:pH d)(fV:List Bool):mG (wD d fV).nw:=λi=>Se h.ps 0 h.st i
structure TrV where
 rv:cI
 rs:List (cD×Int)
 lv:cI
 ls:List vL
 room:Nat
 down:Bool
def trF(x:TrV):Nat->cI:=λi=>if i=0 then x.rv else if i=1 then x.lv else if i=2 then .int .i64 x.room else .bool x.down
def adJ:TrV:=⟨.slice none 0 0,[],.slice none 0 0,[],0,false⟩
def abW:(#[.slice none 0 0,.slice none 0 0,.int .i64 0,.bool false]:fJ)=ct 4 (trF adJ):=rfl
instance in70aac :ZR 26 4 (trF adJ):=⟨_,zeroValue26,abW⟩
def aji:jF prog 26 4:=⟨⟨_,underlying26,ae⟩,cX⟩
instance inbe5e8 :rB 26 4:=⟨aji⟩
def aeG:prog.built 26 []=some #[.slice none 0 0,.slice none 0 0,.int .i64 0,.bool false]:=cX
def aiv:kB prog 23:=⟨⟨_,underlying23,ae⟩,cX⟩
instance in59288 :pS 23:=⟨aiv⟩
def aiw:kB prog 24:=⟨⟨_,underlying24,ae⟩,cX⟩
instance in22a2e :pS 24:=⟨aiw⟩
def ahi:(prog.info? 38).map (λi=>(i.zero,i.size,i.bytes))=some (some (.agg zeroCells38),129,136):=cX
def agv:vT prog 23 38 129 136:=⟨underlying23,_,ahi,ae,cw⟩
section
end
theorem adK{c b:Nat}(h:yw w D (xz n c b) (λ_=>eP) (λ_=>eP)):iK w D (kg n)/\∀k∈nL w D,k=D∨k=c∨k=b:=by have d:mV w D ((kg n).head c b (.slice none 0 0)) (kg n).st (kg n).nw (kg n).ps:=⟨h,gz _ _ _ _,λp e=>by cases e⟩;refine⟨⟨Ut n,c,b,_,d⟩,λk a=>?_⟩;rw[d.nL] at a;unfold fi at a;simp only[ib] at a;rcases a with h|h|h|h;omega;exact .inr (.inl h);exact .inr (.inr h);exact absurd h (by show k∉([]:cD);grind)
structure Ok(x:GT)(k:Nat):Prop where
 inv:Inv x
 ring:Ring x.s.dv.nw x.ub
 st:x.s.cA<=k
 nx:x.b.next<=k
 tx:x.ub.lD<=k
def Ok.far{x:GT}{j:Nat}(h:Ok x k)(I:Inv y)(f:Far x y j):Ok y (k+j):=by refine⟨I,?_,by have:=f.st;have:=h.st;omega,by have:=f.nx;have:=h.nx;omega,by rw[f.ub];have:=h.tx;omega⟩;rw[f.ub];exact⟨(f.ring _ (mod_lt x.ub.lD (show 4>0 by decide))).trans h.ring.here,h.ring.right,h.ring.parts,λi b a v c=>by rw[f.ring i b] at c;exact h.ring.iV i b a v c⟩
theorem Laid.parts{D:Nat->cD}(L:Laid D n st q text tk dx ats)(g:n<=1024)(d:gU st):cY q:=by obtain⟨⟨h,i,l,m,j,e,f,_,_,_,_,_,c,hc,lt,_,_,_,b,_⟩,_,a⟩:=L;have:=a q (by rw[b];simp);refine⟨cw,by rw[this.1];exact d,?_⟩;rw[hc,c];grind[BR,ag9,oe]
theorem MD{x:GT}(h:Ok x k)(p:k<=281474976710600)(d:mG x.s.dv.nw):(dB x iR).2=0/\Ok (dB x iR).1 (k+1)/\NO x (dB x iR).1:=by
 have I:=h.inv;have m:=h.st;have n:=h.nx;have o:=h.tx;have g:=X8 I.uL I.fit d I.al cw cw (λt e=>vA e) cw;have e:dB x iR=((iR x).1,0):=by unfold dB uI;rw[cM (by rw[I.al.1];simp),cM cw]
 have D:=Js I.uL d (by grind[gU]) cw (λt e=>vA e) iG;rw[<-g.2.2] at D;rw[e];refine⟨ae,?_,D⟩;have l:iA x.ub.lD=x.ub.lD+1:=vI cw;have q:iA x.s.cA=x.s.cA+1:=vI cw;refine⟨⟨D.uL,D.fit I.uL I.fit,g.2.1⟩,?_,by show(iR x).1.s.cA<=_;rw[D.cA.1];omega,by show(iR x).1.b.next<=_;rw[D.b];omega,by show(iR x).1.ub.lD<=_;rw[D.ub.1];omega⟩;obtain⟨text,ats,_,L,_⟩:=D.laid;refine⟨D.slot,D.ub.2.2.2.2,L.parts I.uL.n.2 (by grind[gU]),λi f a v b j=>?_⟩;show v.lD<(iR x).1.ub.lD;rw[D.ub.1,l];rw[D.ring i f a] at b;by_cases c:i=x.ub.lD%4
 rw[c,h.ring.here,O7 h.ring.right h.ring.parts] at b;grind;have:=h.ring.iV i f c v b j;omega
def aar:jf eP=none:=by rfl
theorem WS(h:64<=n/\n<=1024):Good (fP (kg n)):=by
 have b:∀a,¬Re (pt (fP (kg n)).s.dv.nw) (·∈(fP (kg n)).b.cE) a:=by grind[Re,fP]
 have mk:rR n (qR (n:Nat)):=λa=>by grind[qR]
 refine⟨.nil,fN _,⟨bp,aX,aX,aX,bp,aX,bp,aX⟩,⟨bp,aX,aX,(by intro s k h;cases h),akF,(by intro s t k h;cases h),aX,akF,akF,aX⟩,aX,mk,h,λa h=>absurd h (b a),λa h=>?_,(by intro q h;cases h),.nil,bp,dK _⟩;have h:qR (n:Nat) a=2:=h;grind[qR]
theorem Ff(h:64<=n/\n<=400):(iN (kg n)).2=0/\Ok (iN (kg n)).1 2/\NO (fP (kg n)) (iN (kg n)).1/\Fit (fP (kg n)):=by
 have G:=WS (n:=n) cw;have e:iN (kg n)=mA (fP (kg n)):=by unfold iN;rw[cM aj1]
 have b:eF (fP (kg n)).s.mp=n-4:=by
  have:=G.map.all G.n.2 (by have:=G.n.1;omega);have r:cn (λa=>(fP (kg n)).s.mp a=2) 1024=0:=by rw[O3 (q:=λ_=>False) λa _=>by show qR (n:Nat) a=2↔_;grind[qR],GJ]
  have s:cn (λa=>(fP (kg n)).s.mp a=3) 1024=0:=by rw[O3 (q:=λ_=>False) λa _=>by show qR (n:Nat) a=3↔_;grind[qR],GJ]
  have u:(fP (kg n)).s.dv.n=n:=rfl;omega
 have F:Fit (fP (kg n)):=by
  unfold Fit;rw[wN,b];have k:(fP (kg n)).b=⟨1,[]⟩:=rfl;have l:(fP (kg n)).dx=[]:=rfl;have o:(fP (kg n)).s.dv.n=n:=rfl;rw[k,l,o];have d:∀m:Fin 401,64<=m.val->0<lP ⟨1,[]⟩ (m.val:Int)/\2*lP ⟨1,[]⟩ (m.val:Int)<=m.val-4:=by decide+kernel
  have:=d ⟨n,cw⟩ h.1;grind
 have g:mG (fP (kg n)).s.dv.nw:=(Ut n).nw;have f:=X8 G F g ⟨ae,ae⟩ bp (by show(0:Nat)<=_;decide) (λt e=>vA e) bp;have D:=Js G g (by show(1:Nat)<_;decide) bp (λt e=>vA e) iG;rw[e,<-f.2.2] at*;refine⟨f.1,?_,D,F⟩;refine⟨⟨D.uL,D.fit G F,f.2.1⟩,?_,by rw[D.cA.1];simp[iA,fP],by rw[D.b];grind[fP],by rw[D.ub.1];show iA 0<=2;decide⟩;obtain⟨text,ats,_,L,_⟩:=D.laid;refine⟨D.slot,D.ub.2.2.2.2,L.parts G.n.2 (by show(1:Nat)<_;decide),λi p c v j w=>?_⟩;rw[D.ring i p c] at j;have:jf eP=some v:=j;rw[aar] at this;cases this
def adL{A:Nat->Prop}(s:Pl)(cz:cy)(i:Int):PW A s (py s cz i).1/\(py s cz i).1.mp=s.mp:=by have w:=Gy (A:=A) s cz i.toNat;have g:=Q1 (A:=A) (eB s cz i.toNat).1 (eB s cz i.toNat).2.1.block;unfold py;split;exact⟨.refl _,ae⟩;split;exact w;exact⟨w.1.trans g.1,g.2.trans w.2⟩
theorem aas(cC:fh)(i:Int)(x:GT):∃d,(uJ cC i x).1=asked x d/\∀A,Wr A x.s.dv d:=by
 unfold uJ;split;exact⟨x.s.dv,ae,λ_=>.refl _⟩;unfold Gu;split;exact⟨x.s.dv,ae,λ_=>.refl _⟩;have g:=λA=>adL (A:=A) x.s (rN x.b cC i).1.cz i;have e:(py x.s (rN x.b cC i).1.cz i).1= {x.s with dv:=(py x.s (rN x.b cC i).1.cz i).1.dv}:=by have h:=g λ_=>False;have f:=h.1.st;have j:=h.1.ba;have k:=h.2;generalize (py x.s (rN x.b cC i).1.cz i).1=t at*;obtain⟨a,b,c,d⟩:=t;grind
 refine⟨_,?_,λA=>(g A).1.wr⟩;grind[J6,asked]
theorem Fit.dev{x:GT}(F:Fit x){d:Dv}(h:d.n=x.s.dv.n):Fit (asked x d):=by grind[Fit,wN,asked]
theorem ahj{x:GT}(G:Good x)(F:Fit x)(c:mG x.s.dv.nw)(f:gU x.s.cA)(o:OpT)(b:∀y∈o.data,y<256)(a:o.kind≠9):GW x (zV x o).1/\Fit (zV x o).1/\Um x (zV x o).1:=by unfold zV;simp only;split;grind[Q6,Uk,Un];split;grind[Ue,Wv,Wy];split;grind[Wp,aae,aaj];split;obtain⟨d,e,w⟩:=aas o.name o.n x;rw[e];exact⟨⟨G.dev (w _),w _⟩,F.dev (w λ_=>False).n,ae,ae,ae,⟨dK _,le_succ _⟩,le_succ _⟩;split;grind[Wn,aad,aah];split;grind[Uc,Wu,Wx];split;grind[NN,Ra,Rb];split;grind[Wo,aag,aai];split;grind[Ed,GK,GL];exact⟨⟨G,.refl _⟩,F,.refl x⟩
theorem adM(x:GT){o:OpT}(h:o.kind=9):(zV x o).1=(dB x iR).1:=by grind[zV]
def afz{x:GT}(h:Ok x k)(c:k<=281474976710600)(a:mG x.s.dv.nw)(e:gU x.s.cA)(o:OpT)(d:∀y∈o.data,y<256):Ok (zV x o).1 (k+1)/\(zV x o).1.s.dv.n=x.s.dv.n:=by by_cases b:o.kind=9;rw[adM x b];exact⟨(MD h c a).2.1,(MD h c a).2.2.n⟩;have I:=h.inv;obtain⟨g,f,s⟩:=ahj I.uL I.fit a e o d b;exact⟨h.far ⟨g.1,f,g.2.al I.al⟩ (adx I.uL g s),g.2.n⟩
theorem Jw{x:GT}(D:NO x y)(h:x.b.cE=[])(F:Fit x):eF y.s.mp=x.s.dv.n-4-mz 12 x.s.dv.n:=by
 have c:=D.count;have e:cn (λa=>y.s.mp a=2) 1024=y.dx.length:=by rw[<-(Q9 D.uL)];refine O3 λa _=>⟨λg=>(D.uL.ac a g).resolve_left ?_,λ⟨q,hq,e⟩=>e▸(D.uL.hd q hq).1⟩;rintro⟨s,_,f,_⟩;rw[D.b,h] at f;cases f
 rcases o5 x.b with⟨⟨t,b,d⟩,_⟩|⟨b,_⟩;(have:=D.dx t b;rw[h] at d;have i:t.length=12:=by rw[d];rfl);grind;grind[Fit,wN,lP]
abbrev iO:=Nat×(cy×Bool)
def kW(b:Bool)(a:List iO×Bool)(q:cy):List iO×Bool:=
 match a.1.find? λm=>decide (m.1=q.1) with
 |none=>(a.1++[(q.1,(q,b))],a.2)
 |some m=>if m.2.1=q then a else(a.1,true)
def o7(b:Bool)(l:List cy)(a:List iO×Bool):List iO×Bool:=l.foldl (kW b) a
def vM:List cR->Pl->List iO×Bool->Pl×((List iO×Bool)×Int)
 | [],s,a=>(s,(a,0))
 |t::ts,s,a=>if(fA s t.cz 0).2.2=42 then((fA s t.cz 0).1,(a,42)) else if(fA s t.cz 0).2.2≠0 then((fA s t.cz 0).1,(a,91)) else
  vM ts (fA s t.cz 0).1 (o7 false (fA s t.cz 0).2.1 a)
structure Fg where
 aiG:List (Int×Int)
 taken:List (Int×Int)
 Ye:Bool
 cE:Nat
 blocks:Nat
def yj:Fg:=⟨[],[],false,0,0⟩
noncomputable def adN(r:Pl×(dS×(List (Int×Int)×(List cy×Int)))):Dv×(Fg×Int):=
 if r.2.2.2.2≠0 then(r.1.dv,(yj,r.2.2.2.2)) else
 let w:=vM r.2.1.cE r.1 (o7 true r.2.2.2.1 ([],false))
 if w.2.2≠0 then(w.1.dv,(yj,w.2.2)) else
 (w.1.dv,(⟨gG (nA (w.2.1.1.map λm=>((m.1:Nat):Int))),r.2.2.1,w.2.1.2,r.2.1.cE.length,(w.2.1.1.filter λm=>!m.2.2).length⟩,0))
noncomputable def Uu(d:Dv)(o:Option qi):Dv×(Fg×Int):=
 if o.isSome=false then(d,(yj,91)) else
 if(o.getD lz).fB≠d.n then(d,(yj,91)) else
 if(o.getD lz).len≠40 then(d,(yj,91)) else
 adN (ji ⟨d,qR d.n,0,0⟩ (o.getD lz).gJ)
noncomputable def wz(d:Dv):Dv×(Fg×Int):=if d.cO=true then(d,(yj,42)) else Uu (eZ d).1 (eZ d).2
def zj(r:Fg):Bool:=decide (r.aiG=r.taken)&& !r.Ye
structure Marks(S:cy->Prop)(a:List iO×Bool):Prop where
 no:a.2=false
 in_:∀m∈a.1,m.2.1.1=m.1/\S m.2.1
theorem aat(hS:∀p q,S p->S q->p.1=q.1->p=q){a:List iO×Bool}(h:Marks S a)(b:Bool)(i:S q):Marks S (kW b a q)/\(∀n,n∈(kW b a q).1.map Prod.fst↔n∈a.1.map Prod.fst∨n=q.1):=by unfold kW;cases d:a.1.find? λm=>decide (m.1=q.1) with|none=>(refine⟨⟨h.no,λm c=>?_⟩,λn=>by simp⟩;rcases fL.1 c with c|c;exact h.in_ m c;grind)|some m=>have f:=find?_some d;have e:=mem_of_find?_eq_some d;have g:=h.in_ m e;grind
theorem H'{S:cy->Prop}(hS:∀p q,S p->S q->p.1=q.1->p=q)(b:Bool):∀(l:List cy)(a:List iO×Bool),Marks S a->(∀q∈l,S q)->Marks S (o7 b l a)/\∀n,n∈(o7 b l a).1.map Prod.fst↔n∈a.1.map Prod.fst∨∃q∈l,q.1=n
 | [],a,h,_=>⟨h,λn=>by simp[o7]⟩
 |q::l,a,h,g=>by
  have s:=aat hS h b (g q lW);have k:=H' hS b l (kW b a q) s.1 λp c=>g p (jI _ c);refine⟨k.1,λn=>?_⟩;show n∈(o7 b l (kW b a q)).1.map Prod.fst↔_
  grind
theorem O9(s:Pl)(q:cy):(cQ s q).1.dv.cO=s.dv.cO:=by grind[cQ,fD,fZ,eG]
theorem adO(s:Pl)(cz:cy)(st:Nat):(fA s cz st).1.dv.cO=s.dv.cO:=by
 have a:∀(l:List cy)(x:Pl×(List cy×Int)),(sd st l x).1.dv.cO=x.1.dv.cO:=by intro l;induction l<;>grind[sd,iL,O9]
 grind[fA,O9]
theorem O'{D:Nat->cD}{n:Nat}{S:cy->Prop}(hS:∀p q,S p->S q->p.1=q.1->p=q):∀(l:List cR)(s:Pl)(a:List iO×Bool),s.dv.cO=false->s.dv.nw=D->s.dv.n=n->(∀t∈l,Rd D n t.cz/\∀k,pt D t.cz k≠cH->0<(pt D t.cz k).2.1/\S (pt D t.cz k))->Marks S a->
 ∃v b,vM l s a=(v,(b,0))/\Marks S b/\PW (λ_=>False) s v/\∀x,x∈b.1.map Prod.fst↔x∈a.1.map Prod.fst∨∃t∈l,∃k,pt D t.cz k≠cH/\(pt D t.cz k).1=x
 | [],s,a,_,_,_,_,h=>⟨s,a,ae,h,.refl _,λx=>by simp⟩
 |t::l,s,a,hd,hw,hn,h,hm=>by
  have f:=h t lW;have c:=yf s t.cz 0;have w:=c.2.2.2 hd (by rw[hw,hn];exact f.1.1);have d:=c.2.2.1 w (by rw[hw];exact f.1.2.2);rw[hw] at d;have j:(fA s t.cz 0).1.dv.cO=false:=(adO s t.cz 0).trans hd;have i:=H' hS false (fA s t.cz 0).2.1 a hm λq z=>by
   grind
  obtain⟨v,b,e,m,o,r⟩:=O' hS l (fA s t.cz 0).1 _ j ((c.1.nn).trans hw) ((c.1.wr.n).trans hn) (λu g=>h u (jI _ g)) i.1;refine⟨v,b,?_,m,c.1.trans o,λx=>?_⟩
  . unfold vM;grind
  . rw[r,i.2];simp only[ib];constructor
    . grind
    . rintro(h|⟨u,rfl|g,k,h0,h⟩)
      . grind
      . refine .inl (.inr ⟨_,(d _).2 ⟨k,yQ λy=>h0 ?_,ae,h0,(f.2 k h0).1⟩,h⟩);unfold pt;grind
      grind
section
open Go.ChangeMaps Go.MapKept Go.WideShapes
def zW(m:cy×Bool):Nat->cI:=λi=>if i<3 then c7 m.1 i else .bool m.2
def yN(m:cy×Bool):cI:=.agg (ct 4 (zW m))
def Uv(m:iO):cI×cI:=(.int .i64 m.1,yN m.2)
def kU(w:cB)(b:Nat)(M:List iO):Prop:=∃c a,w.heap[b]?=some (.map c a)/\c.toList.map (λe=>(e.key,e.val))=M.map Uv/\c.toList.map MapEntry.born=range a
def WT(w:cB):kU (w.alloc (.map #[] 0)) w.heap.size []:=⟨#[],0,(Rh w _).1,ae,ae⟩
theorem kU.lt{w:cB}{b:Nat}{M:List iO}(h:kU w b M):b<w.heap.size:=by obtain⟨a,c,h,_⟩:=h;grind
theorem kU.same{M:List iO}(h:kU w b M)(e:w'.heap[b]?=w.heap[b]?):kU w' b M:=by grind[kU]
theorem ME(n:Nat):∀(a:List MapEntry)(M:List iO)(k:Nat),a.map (λe=>(e.key,e.val))=M.map Uv->
 Instr.findNow (.int .i64) (.int .i64 n) a k=some (match M.findIdx? (λm=>decide (m.1=n)) with|none=>none|some i=>some (k+i,((M.find? λm=>decide (m.1=n)).map λm=>yN m.2).getD undef))
 | [],[],_,_=>by rfl
 | [],_::_,_,h=>by simp at h
 |_::_,[],_,h=>by simp at h
 |e::a,m::M,k,h=>by
  simp only[xd,cons.injEq] at h;obtain⟨b,c⟩:=h;have d:e.key=.int .i64 m.1:=fK Prod.fst b;have f:e.val=yN m.2:=fK Prod.snd b;have g:=ME n a M (k+1) c;unfold Instr.findNow;rw[d,f];simp only[Instr.sameNow,nI]
  grind
def MF(M:List iO)(n:Nat):cI:=.tuple #[yN (((M.find? λm=>decide (m.1=n)).map Prod.snd).getD (cH,false)),.bool (M.find? λm=>decide (m.1=n)).isSome]
theorem WU{M:List iO}(h:kU w b M)(n:Nat):(Instr.lookup 172 (.map (some b)) (.int .i64 n) true).run prog w=.ok (MF M n) w:=by
 obtain⟨a,c,h,g,_⟩:=h;have f:=ME n a.toList M 0 g;have e:(Instr.checkKey a.isEmpty 10000 3 (.int .i64 n)).run prog w=.ok () w:=by rfl
 have j:(Instr.findKey 3 (.int .i64 n) a.toList).run prog w=.ok (match M.findIdx? (λm=>decide (m.1=n)) with|none=>none|some i=>some (0+i,((M.find? λm=>decide (m.1=n)).map λm=>yN m.2).getD undef)) w:=by simp_all[Instr.findKey]
 have d:M.findIdx? (λm=>decide (m.1=n))=none↔M.find? (λm=>decide (m.1=n))=none:=by grind
 unfold Instr.lookup;simp only[kj,xC underlying172,Result.andThen,MapKept.run_getObj_map h,qq,e,j];unfold MF;cases k:M.findIdx? λm=>decide (m.1=n) with|none=>rw[d.1 k];rfl|some i=>cases l:M.find? λm=>decide (m.1=n)<;>simp_all
theorem aau{M:List iO}(h:kU w b M)(m:iO)(n:M.find? (λx=>decide (x.1=m.1))=none):
 ∃w',(Instr.mapUpdate 172 (.map (some b)) (.int .i64 m.1) (yN m.2)).run prog w=.ok () w'/\kU w' b (M++[m])/\w.grownBy w' (some b)/\w'.heap.size=w.heap.size:=by
 obtain⟨a,c,h,g,st⟩:=h;have f:=ME m.1 a.toList M 0 g;have l:M.findIdx? (λx=>decide (x.1=m.1))=none:=by grind
 have d:(Instr.checkKey false 10000 3 (.int .i64 m.1)).run prog w=.ok () w:=by rfl
 have j:(Instr.findKey 3 (.int .i64 m.1) a.toList).run prog w=.ok none w:=by simp_all[Instr.findKey]
 refine⟨ChangeMaps.setBlock w b (.map (a.push ⟨.int .i64 m.1,yN m.2,c⟩) (c+1)),?_,⟨_,_,ChangeMaps.heap_setBlock_same h _,?_,?_⟩,⟨ae,ae,ae,by simp[ChangeMaps.setBlock],λi _ k=>ChangeMaps.heap_setBlock_other h _ λe=>k (by rw[e])⟩,by simp[ChangeMaps.setBlock]⟩;unfold Instr.mapUpdate;simp only[kj,xC underlying172,Result.andThen,MapKept.run_getObj_map h,d,j,MapKept.run_setObj_map _ h];rfl;simp[g,Uv];grind[range_succ]
def adP:cI->Nat
 | .int _ n=>n.toNat
 |_=>0
def aix:cI->Bool
 | .bool b=>b
 |_=>false
def unE:cI×cI->iO
 |(k,.agg cs)=>(adP k,((adP (cs.getD 0 undef),adP (cs.getD 1 undef),adP (cs.getD 2 undef)),aix (cs.getD 3 undef)))
 |(k,_)=>(adP k,(cH,false))
def afA(m:iO):unE (Uv m)=m:=by rfl
def nY(w:cB)(b r:Nat)(M S L:List iO):Prop:=∃d a c,w.heap[b]?=some (.map d a)/\d.toList.map (λe=>(e.key,e.val))=M.map Uv/\d.toList.map MapEntry.born=range a/\
 w.heap[r]?=some (.mapIter (some b) a c a)/\(S++L).Perm M/\(leftOf d c).toList.map (λe=>unE (e.key,e.val))=L
theorem nY.lt{w:cB}{b r:Nat}{M S L:List iO}(h:nY w b r M S L):b<w.heap.size/\r<w.heap.size:=by obtain⟨_,_,_,h,_,_,g,_⟩:=h;grind
theorem nY.same{M S L:List iO}(h:nY w b r M S L)(e:w'.heap[b]?=w.heap[b]?)(f:w'.heap[r]?=w.heap[r]?):nY w' b r M S L:=by grind[nY]
def Uw{M:List iO}(h:kU w b M):∃w',(Instr.range 172 (.map (some b))).run prog w=.ok (.pointer (some ⟨w.heap.size,0,none⟩)) w'/\nY w' b w.heap.size M [] M/\w.grownBy w' none/\w'.heap.size=w.heap.size+1:=by
 have lt:=h.lt;obtain⟨a,c,h,g,st⟩:=h;refine⟨_,run_range_map w 172 3 177 b a c underlying172 h,⟨a,c,#[],((Rh w _).2 b lt).trans h,g,st,(Rh w _).1,.refl _,?_⟩,World.grownBy_alloc w _ none,by simp⟩;have e:(leftOf a #[]).toList=a.toList:=by simp[leftOf]
 rw[e];have:a.toList.map (λe=>unE (e.key,e.val))=(a.toList.map λe=>(e.key,e.val)).map unE:=by simp
 rw[this,g,sK];conv=>rhs;rw[<-map_id M]
 rfl
theorem Jy:∀(l:List MapEntry),(l.map MapEntry.born).Nodup->∀e∈l,l.Perm (e::l.filter λx=>!(x.born==e.born))
 | [],_,_,h=>by cases h
 |a::l,nd,e,h=>by
  simp only[xd,vP] at nd;rcases ib.1 h with rfl|h
  . have:l.filter (λx=>!(x.born==e.born))=l:=List.filter_eq_self.2 λx d=>by
     grind
    simp[this]
  . have c:a.born≠e.born:=λb=>nd.1 (fM.2 ⟨e,h,b.symm⟩);have:(a::l).filter (λx=>!(x.born==e.born))=a::l.filter λx=>!(x.born==e.born):=by simp[c]
    rw[this];exact((Jy l nd.2 e h).cons a).trans (.swap _ _ _)
theorem nY.next{M S L:List iO}(h:nY w b r M S L)(ty:dC):
 (L=[]/\S.Perm M/\(Instr.next (.pointer (some ⟨r,0,none⟩)) false ty).run prog w=.ok (.tuple #[.bool false]) w)∨
 ∃m u w',(Instr.next (.pointer (some ⟨r,0,none⟩)) false ty).run prog w=.ok (.tuple #[.bool true,.int .i64 m.1,yN m.2]) w'/\nY w' b r M (S++[m]) u/\u.length<L.length/\w.grownBy w' (some r)/\w'.heap.size=w.heap.size/\
  (Instr.entry (.pointer (some ⟨r,0,none⟩))).run prog w'=.ok (.tuple #[.int .i64 m.1,yN m.2]) w':=by
 obtain⟨j,c,a,v,g,st,A,J,D⟩:=h;have H:(j.toList.map MapEntry.born).Nodup:=by grind
 rcases run_next_at w ty r b c c a j c A v (λx G=>wZ.1 (st▸fM.2 ⟨x,G,ae⟩)) (dK _) with⟨I,f⟩|⟨e,y,w1,k,f⟩;(have:L=[]:=by grind);subst this;exact .inl ⟨ae,by grind,f⟩;(obtain⟨n,E⟩:=mem_left y;obtain⟨m,_,p⟩:=fM.1 (g▸fM.2 ⟨e,n,ae⟩);have z:e.key=.int .i64 m.1:=(fK Prod.fst p).symm;have B:e.val=yN m.2:=(fK Prod.snd p).symm;have s:w1.heap[r]?=some (.mapIter (some b) c a c):=by rcases k with rfl|rfl<;>exact A);(have q:w1.heap[b]?=some (.map j c):=by rcases k with rfl|rfl<;>exact v);(have d:=heap_set (o':=.mapIter (some b) c (a.push e.born) c) s;have l:=(d.2 b (λo=>(λe=>by grind) o.symm)).trans q;have l2:(leftOf j (a.push e.born)).toList=(leftOf j a).toList.filter λx=>!(x.born==e.born):=by unfold leftOf;rw[Array.toList_filter,Array.toList_filter,filter_filter];grind);(have t:((leftOf j a).toList.map MapEntry.born).Nodup:=by grind[leftOf]);have C:=(Jy _ t e y).map λe=>unE (e.key,e.val);rw[<-l2,D,xd,<-p,afA] at C;refine .inr ⟨m,(leftOf j (a.push e.born)).toList.map λe=>unE (e.key,e.val),_,by rw[<-z,<-B];exact f,⟨j,c,a.push e.born,l,g,st,d.1,?_,ae⟩,by have:=C.length_eq;grind,?_,?_,?_⟩;grind;rcases k with rfl|rfl<;>exact⟨ae,ae,ae,by simp[ChangeMaps.setBlock],λi _ F=>d.2 i (λo=>F (by rw[o]))⟩;rcases k with rfl|rfl<;>simp[ChangeMaps.setBlock];rw[<-z,<-B];exact run_entry_at _ r b c a j c e d.1 l n H
end
def Ia(m:cy×Bool):∀i,(zW m i).oneCell'=true:=by intro i;unfold zW;split;exact df _ _;rfl
def Yf:jF prog 177 4:=⟨⟨_,underlying177,ae⟩,cX⟩
instance inbd671 :rB 177 4:=⟨Yf⟩
def adQ(q:cy)(o:Bool):prog.built 177 [(0,.agg (ct 3 (c7 q))),(1,.bool o)]=some (ct 4 (zW (q,o))):=cX
theorem aav(m:cy×Bool):∀i,i<3->zW m (0+i)=c7 m.1 i:=by simp_all[zW]
theorem kU.ty{M:List iO}(h:kU w b M):gx w b=none:=by obtain⟨a,c,h,_⟩:=h;grind[gx]
theorem cK.aiy{T:Nat}(h:cK w T sz v n xs)(r:iU c w w')(hc:gx w c=none):cK w' T sz v n xs:=by obtain⟨k,d,cap,l,m,p,q⟩:=h;refine⟨k,d,cap,l,m,p,λs=>?_⟩;obtain⟨b,o,f,j,g,a,i⟩:=q s;have lt:=(qj.1 a).1;refine⟨b,o,f,j,g,(r.block b lt λe=>?_).trans a,i⟩;grind[gx]
def reX(b:Nat)(w:cB)(M:List iO):cD->cB->Prop:=λB W=>kU W b M/\b∉B/\iU b w W/\∀c∈B,w.heap.size<=c
theorem iU.then{a:cB}(h:iU b w W)(g:iU b W a):iU b w a:=
 by grind[trans]
def Ux(b:Nat)(w:cB)(M:List iO):kK none (reX b w M) where
 cx:=λh hb=>⟨h.1.same (hb.block b h.1.lt),h.2.1,h.2.2.1.then ⟨hb.os,hb.tape,hb.output,hb.size,λk hk _=>hb.block k hk⟩,h.2.2.2⟩
 add:=fun {B W c} h hc=>⟨h.1,λhm=>by
  rcases ib.1 hm with e|hm
  . have:=h.1.lt;omega
  . exact h.2.1 hm,h.2.2.1,λd hd=>by
  rcases ib.1 hd with e|hd
  . have:=h.2.2.1.size;omega
  . exact h.2.2.2 d hd⟩
 mono:=λh hs=>⟨h.1,λhm=>h.2.1 (hs _ hm),h.2.2.1,λd hd=>h.2.2.2 d (hs _ hd)⟩
 but:=fun {B W W' c t} h hc hb _ _ _=>⟨h.1.same (hb.block b h.1.lt λe=>h.2.1 (e▸hc)),h.2.1,⟨hb.os.trans h.2.2.1.os,hb.tape.trans h.2.2.1.tape,hb.output.trans h.2.2.1.output,gO h.2.2.1.size hb.size,λk hk hne=>(hb.block k (oS hk h.2.2.1.size) (λe=>by have:=h.2.2.2 c hc;omega)).trans (h.2.2.1.block k hk hne)⟩,h.2.2.2⟩
 dev:=λ_ e=>by cases e
section
variable {w1:cB}{x v:Nat}{ty:dC}
def aaw{M:List iO}(S:St w0 none l L O (reX b w1 M) w){t:Bool}(f:a.eval (.tmp m)=.map (some b))(g:a.eval (.tmp x)=.int .i64 n)(e:MF M n=.tuple #[.agg A,.bool t])(h:wpList prog ops Q rest (a.put (some dst) (.tuple #[.agg A,.bool t])) w):
 wpList prog ops Q (⟨some dst,.lookup 172 (.tmp m) (.tmp x) true,t2,p,af,none⟩::rest) a w:=by refine lF ae λK d=>?_;unfold Oper.wp;have c:=WU S.x.1 n;rw[e] at c;simp[execOp,f,g,c,Result.andThen];exact d _ _ h
def adR{M:List iO}(S:St w0 none l L O (reX b w1 M) w)(g:w0.heap.size<=b)(n:b<w1.heap.size){q:iO}(i:A=ct 4 (zW q.2))(s:M.find? (λy=>decide (y.1=q.1))=none)(r:a.eval (.tmp m)=.map (some b))(t:a.eval (.tmp x)=.int .i64 q.1)(e:a.eval (.tmp v)=.agg A)(h:∀W,St w0 none l L O (reX b w1 (M++[q])) W->wpList prog ops Q rest (a.put none undef) W):
 wpList prog ops Q (⟨none,.mapUpdate 172 (.tmp m) (.tmp x) (.tmp v),t2,p,af,none⟩::rest) a w:=by
 obtain⟨w',d,k,o,u⟩:=aau S.x.1 q s;have e:a.eval (.tmp v)=yN q.2:=by rw[e,i];rfl
 refine lF ae λK j=>?_;unfold Oper.wp;simp only[execOp,r,t,e,kj,d,Result.andThen];have f:=tg o;have c:=(S.Dx (X':=λ_ _=>True) (λ_ _ _=>gI) vt).obj f S.x.1.ty g kQ.t;exact j _ _ (h _ ⟨c.fr,c.row,c.own,c.lo,c.nd,⟨k,S.x.2.1,S.x.2.2.1.then f,S.x.2.2.2⟩,Ux _ _ _⟩)
end
section
attribute[local irreducible]wpList Code.wp Calls Oper.wp wpAnyH
def aax(a:Bool)(l:List cy)(v:cI)(b:Nat)(p:List iO)(w:cB)(R:cK w 106 3 v l.length (gY l))(H:kU w b p):
 CP_ 88 #[.map (some b),v,.bool a] w λe w'=>e=.returned (.bool (o7 a l (p,false)).2)/\kU w' b (o7 a l (p,false)).1/\iU b w w':=by
 have T:l.length<=maxLen:=by obtain⟨_,_,_,_,h1,h2,_⟩:=R;omega
 unfold maxLen at T;obtain⟨ao,cap,rfl,X,Q⟩:=du R;have HR:=cq R;have HN:=cq H.ty;have F:=H.lt;have S:St {w with heap:=#[]} none [] [] [] (reX b w p) w:=⟨⟨ae,ae,ae,fN _,(λk Y=>absurd Y (u' _)),(λD e=>by cases e),(λD e=>by cases e)⟩,(λr hr=>by cases hr),(λo ho=>by cases ho),(λc hc=>by cases hc),nodup_nil,⟨H,iS,.refl _ _,λc hc=>by cases hc⟩,Ux _ _ _⟩;clear R H;go_enter func88,ntmps88;go_upto_region 3 with(fail);go_loopw [7,14] (λtw i wr=>∃(k:Nat)(M:List iO)(t:Bool),k<=l.length/\i=.int .i64 k/\tw=.bool t/\Hid (o7 a (l.take k) (p,false)=(M,t)/\St {w with heap:=#[]} none [] [] [] (reX b w M) wr)) (λ_ i _=>l.length-(intOf i).toNat);exact⟨0,p,false,cw,ae,ae,cq ⟨ae,S⟩⟩;clear S;obtain⟨k,M,t,Y,rfl,rfl,hS⟩:=hrel;by_cases z:k<l.length
 . (obtain⟨bb,o,rfl⟩:=Q cw;obtain⟨q,U⟩:=c8 (l[k]);have d:=KW (kW a) (p,false) l z;have x:=hS.o.1;unfold o7 at x;rw[x,U] at d;obtain⟨J,s⟩:=eW (ct 3 (c7 q));have G:=cq (jK l z (A:=J) (by rw[U];exact s));have j:=cq s;have S:=hS.o.2;have a1:(k:Int)<(l.length:Int):=cw;have O:∀{W:cB},iU b w W->cK W 106 3 _ l.length (gY l):=λh=>HR.o.aiy h HN.o;clear hS x U s;rcases hf:M.find? λy=>decide (y.1=q.1) with _|m;obtain⟨I,g⟩:=xm (ct 4 (zW (cH,false)));obtain⟨V,B⟩:=xm (ct 4 (zW (q,a)));have E:=cq (show MF M q.1=.tuple #[.agg I,.bool false] by unfold MF;rw[hf,g.o];rfl);have K:=cq (show prog.built 177 [(0,.agg J),(1,.bool a)]=some V by rw[j.o,B.o];exact adQ q a);have L:=cq hf;have f:kW a (M,t) q=(M++[(q.1,(q,a))],t):=by unfold kW;rw[hf]);rw[f] at d;have n:=cq d;clear hf f d;rotate_left;(obtain⟨I,g⟩:=xm (ct 4 (zW m.2));obtain⟨Z,C⟩:=xm (ct 3 (c7 m.2.1));obtain⟨bq,u⟩:=c8 (decide (m.2.1=q));have E:=cq (show MF M q.1=.tuple #[.agg I,.bool true] by unfold MF;rw[hf,g.o];rfl);have a2:∀W,(binOp .neq 106 (.agg Z) (.agg J)).run prog W=.ok (.bool !bq) W:=λW=>by have:=Ew m.2.1 q bq u W;rw[C.o,j.o];exact this);(have N:=cq (aav m.2);have f:kW a (M,t) q=(M,if bq=true then t else true):=by unfold kW;rw[hf,<-u];by_cases e:m.2.1=q<;>simp[e]);rw[f] at d;have n:=cq d;clear hf f d u;rcases bq with _|_;rotate_left
   all_goals
    go_wp2_with first|(first|refine jl 21 3 20 S 0 0 (.int .i64 q.1) ?_|refine jl 29 3 28 S 1 0 (.int .i64 q.1) ?_)|refine nO S rfl rfl j.o eN rfl mB (df _) λW S=>?_|refine aaw S ae ae E.o ?_|refine nO S rfl rfl g.o Yf rfl mB (Ia _) λW S=>?_|refine kC (cells:=V) ae K.o ?_|refine adR S (fN _) F (q:=(q.1,(q,a))) B.o L.o rfl rfl rfl λW S=>?_|(first|refine Bf (O S.x.2.2.1) z (tL j) G.o ?_|refine oM_ S 0 ae (o:=0) (m:=3) (c7 m.2.1) N.o C.o ?_)|refine eR ?_
    go_roundw
    case rel=>first|exact⟨k+1,_,t,cw,by go_num,ae,cq ⟨n.o,S.pop.pop⟩⟩|exact⟨k+1,M,true,cw,by go_num,ae,cq ⟨n.o,S.pop.pop⟩⟩|exact⟨k+1,M,t,cw,by go_num,ae,cq ⟨n.o,S.pop.pop⟩⟩
    case measure=>exact oV
 . obtain rfl:k=l.length:=cw;have S:=hS.o.2;have L:=cq (show o7 a l (p,false)=(M,t) by have:=hS.o.1;rwa [oT] at this);clear hS;go_wp2;go_ret;rw[L.o];exact⟨ae,S.x.1,S.x.2.2.1⟩
def ahk:Ren:=⟨fun|189=>90|125=>157|257=>156|128=>217|129=>218|294=>208|295=>209|296=>210|297=>211|298=>212|299=>213|216=>214|300=>215|301=>216|328=>250|329=>251|330=>252|331=>253|332=>254|215=>255|343=>278|n=>n,fun|28=>81|46=>222|51=>104|53=>82|183=>304|182=>303|131=>156|218=>339|222=>342|228=>356|229=>357|n=>n,λn=>n⟩
def zk{b c:Func}(h:o=some b)(e:b=c:=by kernel_rfl):o=some c:=by rw[h,e]
def Ri:Lays.n189 prog ahk:=
 ⟨cX,zk func157,zk func217,zk func218,zk func90,zk func255,zk func214,zk func156,zk func208,zk func209,zk func210,zk func211,zk func212,zk func213,zk func215,zk func216,zk func250,zk func251,zk func252,zk func253,zk func254,zk func278,
  underlying0,isAgg0,sizeOf0,zeroValue0,uh,isAgg3,sizeOf3,zeroValue3,underlying4,isAgg4,sizeOf4,zeroValue4,xI,isAgg5,sizeOf5,zeroValue5,xP,isAgg9,sizeOf9,zeroValue9,oW,isAgg81,sizeOf81,zeroValue81,underlying222,isAgg222,sizeOf222,zeroValue222,underlying104,isAgg104,sizeOf104,zeroValue104,underlying82,isAgg82,sizeOf82,zeroValue82,underlying156,isAgg156,sizeOf156,zeroValue156,underlying303,isAgg303,sizeOf303,zeroValue303,underlying304,isAgg304,sizeOf304,zeroValue304,underlying339,isAgg339,sizeOf339,zeroValue339,underlying342,isAgg342,sizeOf342,zeroValue342,underlying356,isAgg356,sizeOf356,zeroValue356,underlying357,isAgg357,sizeOf357,zeroValue357⟩
theorem aay(v u:cI)(l m:List (Int×Int))(w:cB)(L:eD w v l)(K:eD w u m):
 rF 92 #[v,u] w (.bool (decide (l=m))):=by
 obtain⟨M,cap,rfl,E,_,hc⟩:=L;obtain⟨O,D,rfl,B,_,n⟩:=K;have F:=cq hc;clear hc;have t:=cq n;clear n;by_cases d:l.length=m.length
 . (have q:=cq d;have I:((l.length:Int)!=(m.length:Int))=false:=by simp[d]);clear d;go_enter func92,ntmps92;go_wp2_with (fail)
   go_loopw [13] (λi wr=>∃(k:Nat),k<=l.length/\i=.int .i64 k/\Hid (∀j(z:j<k)(r:j<l.length)(s:j<m.length),l[j]=m[j])/\dz w wr)
    (λi _=>l.length-(intOf i).toNat)
   exact⟨0,fN _,ae,λj z=>absurd z (u' _),fO _ _⟩;obtain⟨k,V,rfl,C,hbel⟩:=hrel;by_cases f:k<l.length
   . (have e:k<m.length:=by have:=q.o;omega);obtain⟨b,o,rfl,y,c⟩:=F.o (by intro h;simp[h] at f);obtain⟨N,o',rfl,g,a⟩:=t.out (by intro h;simp[h] at e);obtain⟨Q,R⟩:=xo y c hbel f;obtain⟨T,U⟩:=xo g a hbel e;clear c a;have G:(k:Int)<(l.length:Int):=cw;have H:(k:Int)<(m.length:Int):=cw;by_cases p:l[k]=m[k]
     . have x:=cq p;have J:=aaT l[k].1 l[k].2 m[k].1 m[k].2 false (by rw[p];simp);clear p;go_wp2_with (go_quiet (fail));go_roundw;(case rel=>refine⟨k+1,cw,by go_num,λj z r s=>?_,by refine below_drewN ?_ _;go_grown⟩;by_cases A:j=k;subst A;exact x.o;exact C.o j cw r s);case measure=>exact oV
     . have x:=cq p;have J:=aaT l[k].1 l[k].2 m[k].1 m[k].2 true (by
        grind)
       clear p;go_wp2_with (go_quiet (fail));go_ret;exact⟨zt (by rw[iC (RF f e x.o)]),by refine below_drewN ?_ _;go_grown⟩
   . go_wp2;go_ret;exact⟨zt (by rw[fQ (Yw q.o (λj r s=>C.o j cw r s))]),hbel⟩
 . (have q:=cq d;have I:((l.length:Int)!=(m.length:Int))=true:=by rw[eO];omega);clear d;go_enter func92,ntmps92;go_wp2;go_ret;exact⟨zt (by rw[iC (λh=>q.o (by rw[h]))]),fO _ _⟩
def A'(a b:cI)(r:Fg):Nat->cI:=λi=>if i=0 then a else if i=1 then b else if i=2 then .bool r.Ye else if i=3 then .int .i64 r.cE else .int .i64 r.blocks
def aiz:jF prog 91 5:=⟨⟨_,underlying91,ae⟩,cX⟩
instance in0de67 :rB 91 5:=⟨aiz⟩
def af8:kB prog 66:=⟨⟨_,underlying66,ae⟩,cX⟩
instance in9a29d :pS 66:=⟨af8⟩
def eD.adS{l:List (Int×Int)}(h:eD w v l)(a:dz w w'):eD w' v l:=eD.cx h a
def Pa(a b:cI)(r:Fg)(A:fJ)(g:A=ct 5 (A' a b r))(w:cB)(e:eD w a r.aiG)(f:eD w b r.taken):
 rF 36 #[.agg A] w (.bool (zj r)):=by have j:=cq g;have S:=pF w;have d:=cq λW(h:dz w W)=>aay a b r.aiG r.taken W (e.adS h) (f.adS h);obtain⟨c,hc⟩:=c8 (decide (r.aiG=r.taken));rw[hc] at d;obtain⟨t,i⟩:=c8 r.Ye;rw[show zj r=(c&& !t) by unfold zj;rw[hc,i]];clear g e f hc;go_enter func36,ntmps36;cases c with|false=>go_wp2_with (first|(with_reducible first|refine jl 4 66 3 S 0 0 (a) ?_|refine jl 6 66 5 S 0 1 (b) ?_)|(go_at_call 92;refine je S (d.o _ S.b) λW S=>?_)|refine ey λW S=>?_);go_ret;exact aw|true=>go_wp2_with (first|(with_reducible first|refine jl 4 66 3 S 0 0 (a) ?_|refine jl 6 66 5 S 0 1 (b) ?_|refine jm 10 4 9 S 0 2 (.bool r.Ye) ?_)|(go_at_call 92;refine je S (d.o _ S.b) λW S=>?_)|refine ey λW S=>?_);go_ret;exact⟨by cases t<;>rfl,S.b⟩
end
section
open Go.Sort
theorem adT(h:w.ownsRow base 3 1 v n (zs.map (Value.int .i64)))(m:zs.length<=100000000):
 CP_ 90 #[v] w λe w'=>e=.returned (.tuple #[])/\w'.ownsRow base 3 1 v n ((zs.mergeSort λx y=>decide (x<=y)).map (Value.int .i64))/\w.grownBy w' v.ownBlock:=by
 have i:zs.length=n:=by have:=h.1;grind
 subst i;rcases tZ zs.length with h0|h0;have f:zs=[]:=wj h0;subst f;rcases h.2 with⟨rfl,_⟩|⟨g,cap,b,rfl,_⟩;exact(calls_of_every_depth λD=>AnyS.slices_Sort_int_none_in Ri D none 0 w).mono λe w' ⟨a,h2⟩=>⟨a,by simp_all,by grind[World.grownBy.refl]⟩;exact(calls_of_every_depth λD=>AnyS.slices_Sort_int_none_in Ri D (s_ g 0) cap w).mono λe w' ⟨a,h2⟩=>⟨a,by simp_all,by grind[World.grownBy.refl]⟩;obtain⟨_,⟨_,a⟩|⟨g,cap,b,rfl,j,c,k,hc,l,d⟩⟩:=h;omega;rw[q7] at d;have lt:=(qj.1 c).1;refine(Any.slices_Sort_int Ri g 0 cap zs w (holds_of_blockI (ss:=zs) c d) lt cw).mono λe w' ⟨a,n,os,h2⟩=>⟨a,?_,?_⟩;simp_all[ownsRow_sortedI];subst h2;exact grownBy_sortedI _
end
def mkX(b:Nat)(M:List iO):cD->cB->Prop:=λB w=>kU w b M/\b∉B
theorem kU.fr{w w':cB}{b:Nat}{M:List iO}{d:Option Nat}{l:cD}(h:kU w b M)(f:Fr d l w w'):kU w' b M:=
 h.same (f.block b h.lt λ⟨t,ht,_⟩=>by rw[h.ty] at ht;cases ht)
def rS(b:Nat)(M:List iO):tS (mkX b M) where
 cx:=λh hb=>⟨h.1.same (hb.block b h.1.lt),h.2⟩
 add:=λh hb=>⟨h.1,λhm=>by
  rcases ib.1 hm with e|hm
  . have:=h.1.lt;omega
  . exact h.2 hm⟩
 mono:=λh hs=>⟨h.1,λhm=>h.2 (hs _ hm)⟩
 but:=fun {B w w' c} h hc hb=>⟨h.1.same (hb.block b h.1.lt λe=>h.2 (e▸hc)),h.2⟩
 fr:=λh f=>⟨h.1.fr f,h.2⟩
def kQ.sl(e:dC)(z:Nat)(v:cI)(n:Nat)(xs:List cI):kQ (xL e z v n xs):=λ_ _ _ _ h a b=>⟨h.1.aiy a b,h.2⟩
def kQ.cE(v:cI)(l:List dg):kQ (qA v l):=λ_ _ _ _ h a b=>⟨kQ.sl _ _ _ _ _ _ _ _ _ h.1 a b,λx c=>kQ.sl _ _ _ _ _ _ _ _ _ (h.2 x c) a b⟩
def afB:(#[.slice none 0 0,.slice none 0 0,.bool false,.int .i64 0,.int .i64 0]:fJ)=ct 5 (A' (.slice none 0 0) (.slice none 0 0) yj):=rfl
def afC:prog.built 91 []=some (ct 5 (A' (.slice none 0 0) (.slice none 0 0) yj)):=cX
def Rj(w:cB)(base:Nat)(A:fJ)(r:Fg):Prop:=∃a b,A=ct 5 (A' a b r)/\(mT w base a r.aiG/\mT w base b r.taken)/\eD w a r.aiG/\eD w b r.taken
def yO(w:cB)(base:Nat):Rj w base (ct 5 (A' (.slice none 0 0) (.slice none 0 0) yj)) yj:=⟨_,_,ae,⟨gz _ _ _ _,gz _ _ _ _⟩,rW w,rW w⟩
def cK.Rk{l:List (Int×Int)}(h:cK w 141 2 v l.length (ir l))(p:∀x∈l,ee x.1/\ee x.2)(m:l.length<=9223372036854775807):eD w v l:=by obtain⟨c,cap,rfl,_⟩:=id h.2;refine⟨c,cap,ae,m,p,λn=>?_⟩;obtain⟨s,d,a,e,_,_,g⟩:=id h;obtain⟨b,o,q,r,f,i,hc⟩:=g (z7.2 n);cases e;subst f;refine⟨b,o,ae,(qj.1 i).1,λk j=>?_⟩;have:=uN l k j;exact⟨h.cellAt cw this.1,by rw[GS];exact h.cellAt cw this.2⟩
def qL{a b:cI}{r:Fg}(c:a.oneCell'=true)(d:b.oneCell'=true):∀i,(A' a b r i).oneCell'=true:=by intro i;unfold A';split;exact c;split;exact d;split;rfl;split<;>rfl
def adU(a:Option Addr)(n c k:Nat)(b:List (Int×Int)):prog.built 91 [(1,.slice a n c),(3,.int .i64 k)]=some (ct 5 (A' (.slice none 0 0) (.slice a n c) ⟨[],b,false,k,0⟩)):=cX
section
variable {M M':List iO}
variable {ty:dC}
def afD(S:St w0 d l L O X w)(h:∀b W,w0.heap.size<=b->St w0 d l L O (λB w=>X B w/\mkX b [] B w) W->wpList prog ops Q rest (a.put (some dst) (.map (some b))) W):
 wpList prog ops Q (⟨some dst,.makeMap ty none,t2,p,af,none⟩::rest) a w:=by refine lF ae λK c=>?_;unfold Oper.wp;simp only[execOp,kj,qq,Result.andThen,run_makeMap];exact c _ _ (h _ _ S.fr.size ((S.cx ((fO _ _).alloc (dK _) _)).B6 (rS _ []) ⟨WT w,λe=>tP _ (S.lt _ e)⟩))
theorem J'{x:Nat}{o:Nat}(hc:∀i,i<m->w.cell? ⟨b0,o+i,none⟩=A[i]?)(j:A.size=m)(g:a.eval (.tmp x)=.pointer (some ⟨b0,o,none⟩))(e:jF P ty m)(h:wpList P ops Q rest (a.put (some dst) (.agg A)) w):wpList P ops Q (⟨some dst,.load ty (.tmp x),t2,p,af,none⟩::rest) a w:=by
 obtain⟨⟨b,f,c⟩,k⟩:=e;have d:w.rangeAt b0 o A.toList:=by intro i v l;grind
 have:=wpList_load_mid (op:=⟨some dst,.load ty (.tmp x),t2,p,af,none⟩) (ops:=ops) (rest:=rest) (Q:=Q) ae ty (.tmp x) ae b0 _ g A.toList b d f c iG;rw[tO] at this;exact this h
def my.cz{o:Nat}{x:dg}(h:my w b0 o x)(b:A=ct 3 (c7 x.cz)):∀i,i<3->w.cell? ⟨b0,o+7+i,none⟩=A[i]?:=by intro i a;rw[GS,h (7+i) cw,b,cU,cL a,uE x i a]
theorem St.Ka(S:St w0 d l L O X w')(g:∀k∈dM L O,k<base)(ho:w'.ownsRow base e z v n xs)(c:kO e=false)(f:fT e=false):St w0 d l L O (λB w=>X B w/\xL e z v n xs B w) w':=
 S.B6 (eI e z v n xs c f) ⟨cK.iW ho,λ_ b a i=>by have h:=(ho.lt b a).1;grind⟩
def St.marks(S:St w0 d l L O (λB w=>X B w/\mkX b M B w) w)(c:kQ X)(g:kK d X)(a:w0.heap.size<=b)(e:iU b w w')(f:kU w' b M'):St w0 d l L O (λB w=>X B w/\mkX b M' B w) w':=
 ((S.Dx (X':=X) (λ_ _ h=>h.1) g).obj e S.x.2.1.ty a c).B6 (rS b M') ⟨f,S.x.2.2⟩
end
def rgX(b r:Nat)(M S L:List iO):cD->cB->Prop:=λB w=>nY w b r M S L/\b∉B/\r∉B
theorem nY.tys{M S L:List iO}(h:nY w b r M S L):gx w b=none/\gx w r=none:=by obtain⟨_,_,_,a,_,_,c,_⟩:=h;unfold gx;grind
def Uy(b r:Nat)(M S L:List iO):tS (rgX b r M S L) where
 cx:=λh hb=>⟨h.1.same (hb.block b h.1.lt.1) (hb.block r h.1.lt.2),h.2⟩
 add:=λh hb=>⟨h.1,λhm=>by
  rcases ib.1 hm with e|hm
  . have:=h.1.lt.1;omega
  . exact h.2.1 hm,λhm=>by
  rcases ib.1 hm with e|hm
  . have:=h.1.lt.2;omega
  . exact h.2.2 hm⟩
 mono:=λh hs=>⟨h.1,λhm=>h.2.1 (hs _ hm),λhm=>h.2.2 (hs _ hm)⟩
 but:=fun {B w w' c} h hc hb=>⟨h.1.same (hb.block b h.1.lt.1 λe=>h.2.1 (e▸hc)) (hb.block r h.1.lt.2 λe=>h.2.2 (e▸hc)),h.2⟩
 fr:=λh f=>⟨h.1.same (f.block _ h.1.lt.1 λ⟨t,ht,_⟩=>by rw[h.1.tys.1] at ht;cases ht) (f.block _ h.1.lt.2 λ⟨t,ht,_⟩=>by rw[h.1.tys.2] at ht;cases ht),h.2⟩
def nY.perm{M S L:List iO}(h:nY w b r M S L):(S++L).Perm M:=by obtain⟨_,_,_,_,_,_,_,h,_⟩:=h;exact h
theorem nY.left_eq{M S L:List iO}(h:nY w b r M S L):w.rangeLeft b r=L.length:=by obtain⟨d,c,a,f,_,_,g,_,e⟩:=h;grind[World.rangeLeft]
section
variable {M Sn Lf:List iO}
variable {ty:dC}
def WX(S:St w0 d l L O (λB w=>X B w/\mkX b M B w) w)(j:kK d X)(e:a.eval (.tmp m)=.map (some b))(h:∀r W,w0.heap.size<=r->St w0 d l L O (λB w=>X B w/\rgX b r M [] M B w) W->wpList prog ops Q rest (a.put (some dst) (.pointer (some ⟨r,0,none⟩))) W):
 wpList prog ops Q (⟨some dst,.range 172 (.tmp m),t2,p,af,none⟩::rest) a w:=by obtain⟨w',c,g,i,_⟩:=Uw S.x.2.1;refine lF ae λK f=>?_;unfold Oper.wp;simp[execOp,e,c,Result.andThen];exact f _ _ (h _ _ S.fr.size (((S.cx (xX i)).Dx (X':=X) (λ_ _ h=>h.1) j).B6 (Uy _ _ _ _ _) ⟨g,S.x.2.2,λe=>tP _ (S.lt _ e)⟩))
def aaz(S:St w0 d l L O (λB w=>X B w/\rgX b r M Sn Lf B w) w)(t:kQ X)(x:kK d X)(k:w0.heap.size<=r)(j:a.eval (.tmp m)=.pointer (some ⟨r,0,none⟩))(n:Lf=[]->Sn.Perm M->wpList prog ops Q rest (a.put (some dst) (.tuple #[.bool false])) w)(o:∀q f W,f.length<Lf.length->St w0 d l L O (λB w=>X B w/\rgX b r M (Sn++[q]) f B w) W->(Instr.entry (.pointer (some ⟨r,0,none⟩))).run prog W=.ok (.tuple #[.int .i64 (q.1:Nat),yN q.2]) W->wpList prog ops Q rest (a.put (some dst) (.tuple #[.bool true,.int .i64 (q.1:Nat),yN q.2])) W):
 wpList prog ops Q (⟨some dst,.next (.tmp m) false,t2,p,af,none⟩::rest) a w:=by refine lF ae λK i=>?_;unfold Oper.wp;rcases S.x.2.1.next t2 with⟨e,y,c⟩|⟨q,f,w',c,s,v,u,_,g⟩;simp[execOp,j,c,Result.andThen];exact i _ _ (n e y);simp[execOp,j,c,Result.andThen];exact i _ _ (o q f w' v (((S.Dx (X':=X) (λ_ _ h=>h.1) x).obj (tg u) S.x.2.1.tys.2 k t).B6 (Uy _ _ _ _ _) ⟨s,S.x.2.2.1,S.x.2.2.2⟩) g)
end
theorem Rl(b:Bool)(B:Nat):∀(l:List cy)(a:List iO×Bool),(∀q∈l,q.1<=B)->(∀m∈a.1,m.1<=B)->(∀m∈(o7 b l a).1,m.1<=B)/\(o7 b l a).1.length<=a.1.length+l.length
 | [],a,_,h=>⟨h,by simp[o7]⟩
 |q::l,a,hl,h=>by
  have e:o7 b (q::l) a=o7 b l (kW b a q):=rfl;rw[e];have st:(∀m∈(kW b a q).1,m.1<=B)/\(kW b a q).1.length<=a.1.length+1:=by
   unfold kW
   grind
  obtain⟨d,f⟩:=Rl b B l (kW b a q) (λx c=>hl x (jI _ c)) st.1
  grind
def aaA(l:cD):pB l=(dh l).map (Value.int .i64):=by simp[pB,dh]
theorem WY{l m:List Int}(h:l.Perm m):nA l=nA m:=by grind[nA]
section
def St.sorted{a:List cI}(S:St w0 d l L (⟨3,1,v,n,xs⟩::O) X w)(b:w.grownBy w' v.ownBlock)(c:w'.ownsRow w0.heap.size 3 1 v n a):St w0 d l L (⟨3,1,v,n,a⟩::O) X w':=by rcases hb:v.ownBlock with _|g;(have f:n=0:=by rcases c.2 with⟨_,h⟩|⟨g,cap,e,rfl,_⟩;exact h;cases hb);have i:=S.o0.1;have j:=c.1;subst f;rw[hb] at b;obtain rfl:xs=[]:=wj cw;obtain rfl:a=[]:=wj cw;exact S.cx (xX b);exact S.grow (k:=0) ae b c hb (.inl hb)
def MG(b:(Instr.entry (.pointer (some ⟨r,0,none⟩))).run prog w=.ok v w)(d:a.eval (.tmp m)=.pointer (some ⟨r,0,none⟩))(h:wpList prog ops Q rest (a.put (some dst) v) w):
 wpList prog ops Q (⟨some dst,.entry (.tmp m),t2,p,af,none⟩::rest) a w:=by refine lF ae λK c=>?_;unfold Oper.wp;simp[execOp,d,b,Result.andThen];exact c _ _ h
end
theorem afE(h:w.ownsRow b 3 1 v n (zs.map (Value.int .i64)))(d:∀x∈zs,0<=x/\x<=4294967296)(g:zs.length<=100000000):dR .i64 w v zs:=by
 have a:n=zs.length:=by have:=h.1;grind
 subst a;exact pJ h (λx c=>by have:=d x c;have e:IntKind.i64.min= -9223372036854775808:=rfl;have f:IntKind.i64.max=9223372036854775807:=rfl;grind[Lit.wf]) cw
def Dt(a:Bool):∀(l:List cy)(M:List iO)(t:Bool),o7 a l (M,t)=((o7 a l (M,false)).1,t||(o7 a l (M,false)).2)
 | [],M,t=>by simp[o7]
 |q::l,M,t=>by
  have h:∀t,o7 a (q::l) (M,t)=o7 a l (kW a (M,t) q):=λ_=>ae;rw[h,h];unfold kW;simp only;cases M.find? λm=>decide (m.1=q.1) with
  |none=>exact Dt a l _ t
  |some m=>
   simp only;split
   . exact Dt a l M t
   . rw[Dt a l M true];simp
def Yg(tk:List (Int×Int))(k:Nat)(w:Pl×((List iO×Bool)×Int)):Dv×(Fg×Int):=
 if w.2.2≠0 then(w.1.dv,(yj,w.2.2)) else
 (w.1.dv,(⟨gG (nA (w.2.1.1.map λm=>((m.1:Nat):Int))),tk,w.2.1.2,k,(w.2.1.1.filter λm=>!m.2.2).length⟩,0))
section
attribute[local irreducible]wpList Code.wp Calls Oper.wp wpAnyH
def Uz(D:Nat)(d:Dv)(w:cB)(a:iK w D d):
 CP_ 35 #[.pointer (some ⟨D,0,none⟩)] w λe w'=>∃A,e=.returned (.tuple #[.agg A,.int .i64 (wz d).2.2])/\Rj w' w.heap.size A (wz d).2.1/\iK w' D (wz d).1/\Fr (some D) [] w w':=by
 have S:=St.start w (some D) [] (fG D d) a;have C1:=cq λW(X:iK W D d)=>J0 D d W X;have C2:=cq λW(X:iK W D d)=>FH D d W X;obtain⟨T,hT⟩:=c8 (wz d);have s:=cq (show(if d.cO=true then(d,(yj,42)) else Uu (eZ d).1 (eZ d).2)=T from by rw[<-hT];rfl);have b2:=(tB d a.1.nw).2.2;obtain⟨d1,c5⟩:=c8 ((eZ d).1);obtain⟨o,ho⟩:=c8 ((eZ d).2);obtain⟨dd,f8⟩:=c8 d.cO;rw[hT];rw[c5,ho,f8] at s;rw[c5,ho] at C2;rw[f8] at C1;rw[ho] at b2;obtain⟨AZ,a6⟩:=eW (ct 5 (A' (.slice none 0 0) (.slice none 0 0) yj));have E:=cq (show prog.built 91 []=some AZ by rw[a6];exact afC);have J:=cq a6;have HG:=cq (show∀W,Rj W w.heap.size AZ yj from λW=>by rw[a6];exact yO W _);have e7:=cq (show mG d1.nw by rw[<-c5,(tB d a.1.nw).1];exact a.1.nw);clear a6;go_enter func35,ntmps35;cases dd with
 |true=>rw[cL ae] at s;go_wp2_with (first|refine jb 2 91 S zeroValue91 afB λW S=>?_|refine js 91 2 21 S 0 J.o (qL rfl rfl) λW S=>?_|refine lB (C1.o _ S.x) ?_|refine Az E.o ?_|(refine lC ?_;refine Hid.o ?_));rw[<-s.o];exact cq ⟨_,⟨ae,ae⟩,yO _ _,S.x,S.fr⟩
 |false=>
  rw[cM jR] at s;obtain⟨u,hu⟩:=c8 (o.getD lz);obtain⟨th,j5⟩:=c8 o.isSome;unfold Uu at s;rw[hu,j5] at C2 s;rw[hu] at b2;have HU:=cq b2;clear b2
  go_upto_region 4 with(first|refine jb 2 91 S zeroValue91 afB λW S=>?_|refine js 143 4 25 S 0 i7.o (se _) λW S=>?_|refine lB (C1.o _ S.x) ?_|(refine ag (C2.o _ S.x) λU WK⟨hU,hd,F⟩=>?_;have i7:=cq hU;replace S:=S.call F ar dU (fG D d1) (λB h=>hd);clear hU)|refine ey λW S=>?_)
  have C3:=cq λW(X:iK W D d1)=>yT D d1 W X;obtain⟨n,hn⟩:=c8 d1.n;have k5:n<=1024:=by rw[<-hn];obtain⟨_,sb,nb,pv,h1⟩:=S.x;exact h1.pK
  rw[hn] at C3 s;have HN:=cq hn;clear hn;cases th with
  |false=>
   rw[cL ae] at s;obtain rfl:=s.o;refine dL S cX λW S=>?_;refine cJ 0 _ ?_;refine cJ 1 (.bool true) ?_;refine cJ 2 _ ?_;refine oA 3 ?_;refine oA 4 ?_;refine oA 5 ?_;refine oA 6 ?_;refine oA 7 ?_;refine cJ 8 (.bool true) ?_;refine cJ 9 _ ?_;refine oA 10 ?_;refine oA 11 ?_;refine oA 12 ?_;refine cJ 13 (.bool true) ?_;refine pz ?_
   go_wp2_with first|refine js 91 2 41 S 1 J.o (qL rfl rfl) λW S=>?_|refine Az E.o ?_|(refine lC ?_;refine Hid.o ?_)
   exact akC
  |true=>
   rw[cM jR] at s;by_cases q1:u.fB=n
   case neg=>
    have e1:((u.fB:Int)!=(n:Int))=true:=by rw[eO];omega
    rw[cL q1] at s;obtain rfl:=s.o;refine dL S cX λW S=>?_;refine cJ 0 _ ?_;refine cJ 1 (.bool false) ?_;refine cJ 2 _ ?_;refine cJ 3 (cZ WK.heap.size 6) ?_;refine cJ 4 (.int .i64 u.fB) ?_;refine cJ 5 _ ?_;refine jQ 6 λK hK=>?_
    go_wp2_with fail
    refine lB (C3.o _ S.x) ?_;refine fC hK ?_;clear hK;refine cJ 7 (.bool true) ?_;refine cJ 8 (.bool true) ?_;refine cJ 9 _ ?_;refine oA 10 ?_;refine oA 11 ?_;refine oA 12 ?_;refine cJ 13 (.bool true) ?_;refine pz ?_
    go_wp2_with first|refine js 91 2 41 S 1 J.o (qL rfl rfl) λW S=>?_|refine Az E.o ?_|(refine lC ?_;refine Hid.o ?_)
    exact akC
   rw[cM (λh=>h q1)] at s;have e1:((u.fB:Int)!=(n:Int))=false:=by rw[tX,q1]
   by_cases q2:u.len=40
   case neg=>
    have e2:((u.len:Int) !=40)=true:=by rw[eO];omega
    rw[cL q2] at s;obtain rfl:=s.o;refine dL S cX λW S=>?_;refine cJ 0 _ ?_;refine cJ 1 (.bool false) ?_;refine cJ 2 _ ?_;refine cJ 3 (cZ WK.heap.size 6) ?_;refine cJ 4 (.int .i64 u.fB) ?_;refine cJ 5 _ ?_;refine jQ 6 λK hK=>?_
    go_wp2_with fail
    refine lB (C3.o _ S.x) ?_;refine fC hK ?_;clear hK;refine cJ 7 (.bool false) ?_;refine cJ 8 (.bool false) ?_;refine cJ 9 _ ?_;refine cJ 10 (cZ WK.heap.size 5) ?_;refine cJ 11 (.int .i64 u.len) ?_;refine cJ 12 (.bool true) ?_;refine cJ 13 (.bool true) ?_;refine pz ?_
    go_wp2_with first|refine js 91 2 41 S 1 J.o (qL rfl rfl) λW S=>?_|refine Az E.o ?_|(refine lC ?_;refine Hid.o ?_)
    exact akC
   rw[cM (λh=>h q2)] at s;have e2:((u.len:Int) !=40)=false:=by rw[tX,q2];rfl
   refine dL S cX λW S=>?_;refine cJ 0 _ ?_;refine cJ 1 (.bool false) ?_;refine cJ 2 _ ?_;refine cJ 3 (cZ WK.heap.size 6) ?_;refine cJ 4 (.int .i64 u.fB) ?_;refine cJ 5 _ ?_;refine jQ 6 λK hK=>?_
   go_wp2_with fail
   refine lB (C3.o _ S.x) ?_;refine fC hK ?_;clear hK;refine cJ 7 (.bool false) ?_;refine cJ 8 (.bool false) ?_;refine cJ 9 _ ?_;refine cJ 10 (cZ WK.heap.size 5) ?_;refine cJ 11 (.int .i64 u.len) ?_;refine cJ 12 (.bool false) ?_;refine cJ 13 (.bool false) ?_;refine pz ?_;have C6:=cq λz l W(X:ej W z D l ⟨d1,qR n,0,0⟩)=>Gk z D l ⟨d1,qR n,0,0⟩ u.gJ HU.o.2.2.1 W X;obtain⟨A,hA⟩:=eW (ct 3 (c7 u.gJ));rw[cP hA] at C6;have HA:=cq hA;obtain⟨r,hr⟩:=c8 (ji ⟨d1,qR n,0,0⟩ u.gJ);rw[hr] at C6 s;obtain⟨s2,bk,C,ps,c⟩:=r;simp only at C6;have d9:=cq (show ps.length<=20000/\bk.cE.length<=1000000 from by have:=yd ⟨d1,qR n,0,0⟩ e7.o u.gJ;rw[hr] at this;exact⟨this.2.1,this.1.fit.1⟩);have i2:=cq (show∀t∈bk.cE,cY t.cz from by have:=(yd ⟨d1,qR n,0,0⟩ e7.o u.gJ).1.parts;rw[hr] at this;exact λt ht=>(this t ht).1);unfold adN at s;simp only at s;have i6:=cq λi(hi:i<3)=>BV (u:=u) i hi;clear hA hr
   go_upto_region 8 with(first|refine lB (C3.o _ S.x) ?_|(refine ag ((PN (n:Nat) aS _).mono λe w'(N:_/\_/\_)=>(show∃k,e=.returned (cZ k 0)/\w.heap.size<=k/\eE w' k (qR n)/\dz _ w' from⟨_,N.1,S.fr.size,N.2.1,N.2.2⟩)) λl W⟨f2,hm,hb⟩=>?_;have j9:=cq f2;replace S:=(S.cx hb).uZ hm ae;clear f2)|(refine ag ((yC D l 0 0 _).mono λe w'(N:_/\_/\_)=>(show∃k,e=.returned (cZ k 0)/\w.heap.size<=k/\k7 w' k D l 0 0/\dz _ w' from⟨_,N.1,S.fr.size,N.2.1,N.2.2⟩)) λz W⟨f4,hm,hb⟩=>?_;have k1:=cq f4;replace S:=((S.cx hb).uZ hm ae).Dx (X':=Bq z D l ⟨d1,qR n,0,0⟩) (λB w h=>⟨h.2,h.1.1,h.1.2,⟨(show(0:Nat)<18446744073709551616 by decide),(show(0:Nat)<18446744073709551616 by decide)⟩⟩) (dw z D l _);clear f4)|refine oM_ S 0 ae (o:=2) (m:=3) (c7 u.gJ) i6.o HA.o ?_|(refine(C6.o z l _ S.x).mono ?_;rintro e W ⟨B,r,q,rfl,⟨f,hB,hc,a8⟩,g4,g6,p,g5,R,F⟩;have HB:=cq hB;have HC:=cq hc;have i1:=cq g5;have e8:=cq (And.intro (show∀x∈C,ee x.1/\ee x.2 from by obtain⟨_,_,_,_,N,_⟩:=g6;exact N) (show C.length<=9223372036854775807 from by obtain⟨_,_,_,N,_⟩:=g6;exact N));have h5:=cq (cS g4);have h6:=cq (cS p);replace S:=(S.sf F ar dU (dw z D l s2) (λB h=>R) g4 ae ae).TW a8 p dU dU dU dU;clear hB hc g5;obtain⟨ra,rc,rfl⟩:=h5.o;obtain⟨qa,qc,rfl⟩:=h6.o)|refine ey λW S=>?_)
   obtain rfl:=HC.o;clear HC;by_cases g2:c=0
   case neg=>
    have g3:(c !=0)=true:=eO.2 g2;rw[cL g2] at s;obtain rfl:=s.o;clear g2
    go_wp2_with first|refine js 91 2 58 S 2 J.o (qL rfl rfl) λW S=>?_|refine Az E.o ?_|(refine lC ?_;refine Hid.o ?_)
    exact cq ⟨yO _ _,S.x.1.1.dev,S.fr⟩
   subst g2;rw[cM aE] at s;obtain⟨k0,j3⟩:=c8 f.l.length;obtain⟨AR,c2⟩:=eW (ct 5 (A' (.slice none 0 0) (.slice ra C.length rc) ⟨[],C,false,f.l.length,0⟩));have h4:=cq (show prog.built 91 [(1,.slice ra C.length rc),(3,.int .i64 f.l.length)]=some AR by rw[c2];exact adU _ _ _ _ _);have g8:=cq c2;have C7:=cq λj6 q v b M W h2 h3=>aax j6 q v b M W h2 h3;clear c2;obtain⟨m0,d2⟩:=c8 (o7 true ps ([],false));rw[d2] at s;have e4:=cq d2;clear d2 j3
   go_upto_region 14 with(first|(first|refine jl 62 97 61 S 0 1 (.slice f.dO f.l.length f.cap) ?_|refine jl 71 97 70 S 1 1 (.slice f.dO f.l.length f.cap) ?_)|refine kC (cells:=AR) ae h4.o ?_|refine nO S rfl rfl g8.o aiz rfl mB (qL rfl rfl) λW S=>?_|(refine afD S λG W f3 S=>?_;have b8:=cq f3;clear f3)|(refine ah (C7.o true ps _ G [] _ S.x.1.2.1 S.x.2.1) λW⟨hm,hb⟩=>?_;rw[e4.o] at hm|-;replace S:=S.marks (((kQ.pl z D l s2).and (kQ.cE _ _)).and (kQ.sl _ _ _ _ _)) (((dw z D l s2).still (eT f.sv f.l)).still (eI 106 3 _ _ _ ae ae)) b8.o hb hm)|refine vU S 0 rfl 2 (A' (.slice none 0 0) (.slice ra C.length rc) ⟨[],C,m0.2,f.l.length,0⟩) (λj hj=>by have hj:j<5:=hj;rcases j with(_|_|_|_|_|j)<;>first|rfl) pR rfl rfl rfl rZ λW S=>?_)
   have s:=cq (show Yg C f.l.length (vM (dJ f.l) s2 m0)=T from by rw[<-s.o,<-gj f.l];rfl);have b5:=cq (show(∀q∈m0.1,q.1<=4294967296)/\m0.1.length<=20000 from by
    have:=Rl true 4294967296 ps ([],false) (λq hq=>by have:=(i1.o q hq).1;omega) dU;rw[e4.o] at this;exact⟨this.1,by have h2:=this.2;simp at h2;have:=d9.o.1;omega⟩)
   go_loopw [73] (λi wr=>∃(k:Nat)(s':Pl)(m:List iO×Bool),k<=f.l.length/\i=.int .i64 k/\Hid ((Yg C f.l.length (vM ((dJ f.l).drop k) s' m)=T/\(∀q∈m.1,q.1<=4294967296)/\m.1.length<=20000+73*k)/\St w (some D) [] [⟨_,91,5,A' (.slice none 0 0) (.slice ra C.length rc) ⟨[],C,m.2,f.l.length,0⟩⟩,⟨_,99,2,dk f⟩,⟨_,143,7,kb u⟩,⟨_,91,5,A' (.slice none 0 0) (.slice none 0 0) yj⟩] [⟨141,2,.slice ra C.length rc,C.length,_⟩] (λB w=>((Bq z D l s' B w/\qA f.sv f.l B w)/\xL 106 3 (.slice qa ps.length qc) ps.length (gY ps) B w)/\mkX G m.1 B w) wr)) (λi _=>f.l.length-(intOf i).toNat)
   case atStart=>exact⟨0,s2,m0,cw,ae,cq ⟨⟨s.o,b5.o.1,by have:=b5.o.2;omega⟩,S⟩⟩
   case round=>
    clear S s b5;obtain⟨k,s',m,hk,rfl,hS⟩:=hrel;by_cases a7:k<f.l.length
    . obtain⟨x,hx⟩:∃x,f.l[k]?=some x:=⟨_,iz a7⟩;have S:=hS.o.2;have g:=hS.o.1.1;have V:=cq hS.o.1.2;have f9:(dJ f.l).drop k=x.tocR:: (dJ f.l).drop (k+1):=by rw[drop_eq_getElem?_toList_append,l9,hx];rfl
      rw[f9] at g;unfold vM at g;have d4:cY x.cz:=i2.o x.tocR (kt (i:=k) (by show(dJ f.l)[k]?=_;rw[l9,hx];rfl));obtain⟨j2,k2,e9,_,b4⟩:=du S.x.1.1.2.sl.1;have O:f.dO=j2:=by unfold dD.sv at e9;cases e9;rfl
      obtain⟨bb,o9,f7⟩:=b4 cw;rw[f7] at O;have a3:=cq (show dk f 1=.slice (s_ bb o9) f.l.length f.cap by show f.sv=_;unfold dD.sv;rw[O]);have a5:∀{B:cD}{W:cB},qA f.sv f.l B W->my W bb (o9+k*11) x:=λh=>by
       have h:=h.sl;unfold dD.sv at h;rw[O] at h;exact h.at hx
      have C8:=cq λW X=>Ja z D l s' x.cz d4 0 W X;obtain⟨AX,c4⟩:=eW (ct 3 (c7 x.cz));rw[cP c4] at C8;have I:=cq c4;have a2:=D8 S.x.1.1.1.dev.1.nw d4 0;obtain⟨r3,j4⟩:=c8 (fA s' x.cz 0);rw[j4] at C8 g a2;obtain⟨Q,l3,c3⟩:=r3;simp only at C8 g a2;have d8:=cq (And.intro a2.1 a2.2.1);have k3:(k:Int)<(f.l.length:Int):=cw;have k4:f.l.length<=9223372036854775807:=by
       obtain⟨_,_,_,_,h1,h2,_⟩:=S.x.1.1.2.sl.1;unfold maxLen at h2;omega
      clear a2 f9 d4 e9 b4 f7 O c4;by_cases z1:c3=42
      . subst z1;rw[cL ae] at g;have H:=cq g;clear g
        go_wp2_with first|refine js 91 2 89 S 3 J.o (qL rfl rfl) λW S=>?_|refine Db S 1 ae 1 (v:=.slice (s_ bb o9) f.l.length f.cap) a3.o ?_|refine J' (my.cz (a5 S.x.1.1.2) I.o) (tL I) ae eN ?_|(refine ag (C8.o _ S.x.1.1.1) λrv W⟨p,R,F⟩=>?_;have L:=cq (cS p);replace S:=S.sf (X':=λB w=>((Bq z D l Q B w/\qA f.sv f.l B w)/\xL 106 3 (.slice qa ps.length qc) ps.length (gY ps) B w)/\mkX G m.1 B w) F ar dU ((((dw z D l Q).still (eT f.sv f.l)).still (eI 106 3 _ _ _ ae ae)).still (rS G m.1)) (λB h=>⟨⟨⟨R,(eT f.sv f.l).fr h.1.1.2 F⟩,(eI 106 3 _ _ _ ae ae).fr h.1.2 F⟩,(rS G m.1).fr h.2 F⟩) p ae ae;obtain⟨va,vc,rfl⟩:=L.o)|refine Az E.o ?_|(refine lC ?_;refine Hid.o ?_)
        rw[<-H.o];exact ala
      rw[cM z1] at g;by_cases z2:c3=0
      case neg=>
       rw[cL z2] at g;have H:=cq g;have z3:(c3==42)=false:=by rw[lx];exact z1
       have z4:(c3 !=0)=true:=eO.2 z2;clear g
       go_wp2_with first|refine js 91 2 93 S 3 J.o (qL rfl rfl) λW S=>?_|refine Db S 1 ae 1 (v:=.slice (s_ bb o9) f.l.length f.cap) a3.o ?_|refine J' (my.cz (a5 S.x.1.1.2) I.o) (tL I) ae eN ?_|(refine ag (C8.o _ S.x.1.1.1) λrv W⟨p,R,F⟩=>?_;have L:=cq (cS p);replace S:=S.sf (X':=λB w=>((Bq z D l Q B w/\qA f.sv f.l B w)/\xL 106 3 (.slice qa ps.length qc) ps.length (gY ps) B w)/\mkX G m.1 B w) F ar dU ((((dw z D l Q).still (eT f.sv f.l)).still (eI 106 3 _ _ _ ae ae)).still (rS G m.1)) (λB h=>⟨⟨⟨R,(eT f.sv f.l).fr h.1.1.2 F⟩,(eI 106 3 _ _ _ ae ae).fr h.1.2 F⟩,(rS G m.1).fr h.2 F⟩) p ae ae;obtain⟨va,vc,rfl⟩:=L.o)|refine Az E.o ?_|(refine lC ?_;refine Hid.o ?_)
       rw[<-H.o];exact ala
      subst z2;rw[cM dU] at g;obtain⟨m1,d3⟩:=c8 (o7 false l3 (m.1,false));rw[show o7 false l3 m=(m1.1,m.2||m1.2) from by rw[<-d3];exact Dt false l3 m.1 m.2] at g;have H:=cq g;have e5:=cq d3;have d6:=cq (show(∀q∈m1.1,q.1<=4294967296)/\m1.1.length<=20000+73*(k+1) from by
       have:=Rl false 4294967296 l3 (m.1,false) (λq hq=>by have:=(d8.o.1 q hq).1;omega) V.o.1;rw[e5.o] at this;exact⟨this.1,by have h2:=this.2;simp only at h2;have:=d8.o.2;have:=V.o.2;omega⟩)
      obtain⟨b1,f6⟩:=c8 m1.2;have C7:=cq λv W h2 h3=>(show CP_ 88 #[.map (some G),v,.bool false] W λe w'=>e=.returned (.bool b1)/\kU w' G m1.1/\iU G W w' from by have:=C7.o false l3 v G m.1 W h2 h3;rw[e5.o,f6] at this;exact this);rw[f6] at H;clear g d3;cases b1 with
      |false=>
       go_wp2_with first|refine Db S 1 ae 1 (v:=.slice (s_ bb o9) f.l.length f.cap) a3.o ?_|refine J' (my.cz (a5 S.x.1.1.2) I.o) (tL I) ae eN ?_|(refine ag (C8.o _ S.x.1.1.1) λrv W⟨p,R,F⟩=>?_;have L:=cq (cS p);replace S:=S.sf (X':=λB w=>((Bq z D l Q B w/\qA f.sv f.l B w)/\xL 106 3 (.slice qa ps.length qc) ps.length (gY ps) B w)/\mkX G m.1 B w) F ar dU ((((dw z D l Q).still (eT f.sv f.l)).still (eI 106 3 _ _ _ ae ae)).still (rS G m.1)) (λB h=>⟨⟨⟨R,(eT f.sv f.l).fr h.1.1.2 F⟩,(eI 106 3 _ _ _ ae ae).fr h.1.2 F⟩,(rS G m.1).fr h.2 F⟩) p ae ae;obtain⟨va,vc,rfl⟩:=L.o)|(refine ah (C7.o _ _ S.q0 S.x.2.1) λW⟨hm,hb⟩=>?_;replace S:=S.marks (((kQ.pl z D l Q).and (kQ.cE _ _)).and (kQ.sl _ _ _ _ _)) (((dw z D l Q).still (eT f.sv f.l)).still (eI 106 3 _ _ _ ae ae)) b8.o hb hm)
       go_roundw
       case rel=>exact⟨k+1,Q,(m1.1,m.2||false),cw,by go_num,cq ⟨⟨H.o,d6.o⟩,by rw[Bool.or_false];exact S.M6⟩⟩
       case measure=>exact oV
      |true=>
       go_wp2_with first|refine Db S 1 ae 1 (v:=.slice (s_ bb o9) f.l.length f.cap) a3.o ?_|refine J' (my.cz (a5 S.x.1.1.2) I.o) (tL I) ae eN ?_|(refine ag (C8.o _ S.x.1.1.1) λrv W⟨p,R,F⟩=>?_;have L:=cq (cS p);replace S:=S.sf (X':=λB w=>((Bq z D l Q B w/\qA f.sv f.l B w)/\xL 106 3 (.slice qa ps.length qc) ps.length (gY ps) B w)/\mkX G m.1 B w) F ar dU ((((dw z D l Q).still (eT f.sv f.l)).still (eI 106 3 _ _ _ ae ae)).still (rS G m.1)) (λB h=>⟨⟨⟨R,(eT f.sv f.l).fr h.1.1.2 F⟩,(eI 106 3 _ _ _ ae ae).fr h.1.2 F⟩,(rS G m.1).fr h.2 F⟩) p ae ae;obtain⟨va,vc,rfl⟩:=L.o)|(refine ah (C7.o _ _ S.q0 S.x.2.1) λW⟨hm,hb⟩=>?_;replace S:=S.marks (((kQ.pl z D l Q).and (kQ.cE _ _)).and (kQ.sl _ _ _ _ _)) (((dw z D l Q).still (eT f.sv f.l)).still (eI 106 3 _ _ _ ae ae)) b8.o hb hm)|refine vU S 0 rfl 2 (A' (.slice none 0 0) (.slice ra C.length rc) ⟨[],C,true,f.l.length,0⟩) (λj hj=>by have hj:j<5:=hj;rcases j with(_|_|_|_|_|j)<;>first|rfl) pR rfl rfl rfl rZ λW S=>?_
       go_roundw
       case rel=>exact⟨k+1,Q,(m1.1,m.2||true),cw,by go_num,cq ⟨⟨H.o,d6.o⟩,by rw[Bool.or_true];exact S.M6⟩⟩
       case measure=>exact oV
    . obtain rfl:k=f.l.length:=cw;have g:=hS.o.1.1;have V:=cq hS.o.1.2;rw[drop_eq_nil_of_le (by rw[gj];omega)] at g;have H:=cq g;have S:=cq (hS.o.2.Hi 3 1 ae ae);clear g;have S:=S.o
      go_upto_region 26 with(refine WX S (((dw z D l s').still (eT f.sv f.l)).still (eI 106 3 _ _ _ ae ae)) ae λRB W f5 S=>?_;have i3:=cq f5;clear f5)
      go_frame
      go_loopw [16] (λv wr=>∃(Sn Lf:List iO)(ao:Option Addr)(cp:Nat),v=.slice ao Sn.length cp/\Hid (St w (some D) [] [⟨_,91,5,A' (.slice none 0 0) (.slice ra C.length rc) ⟨[],C,m.2,f.l.length,(Sn.filter λq=>!q.2.2).length⟩⟩,⟨_,99,2,dk f⟩,⟨_,143,7,kb u⟩,⟨_,91,5,A' (.slice none 0 0) (.slice none 0 0) yj⟩] [⟨3,1,.slice ao Sn.length cp,Sn.length,pB (Sn.map Prod.fst)⟩,⟨141,2,.slice ra C.length rc,C.length,_⟩] (λB w=>((Bq z D l s' B w/\qA f.sv f.l B w)/\xL 106 3 (.slice qa ps.length qc) ps.length (gY ps) B w)/\rgX G RB m.1 Sn Lf B w) wr)) (λ_ wr=>wr.rangeLeft G RB)
      case atStart=>exact⟨[],m.1,none,0,ae,cq S⟩
      case round=>
       clear S;obtain⟨Sn,Lf,ao,cp,rfl,hS⟩:=hrel;have S:=hS.o;have b7:=cq S.x.2.1.left_eq;have h8:=cq S.x.2.1.perm;have g1:Sn.length<=100000000:=by have h1:=h8.o.length_eq;have h2:=V.o.2;have h3:(dJ f.l).length<=1000000:=d9.o.2;rw[ik] at h1;rw[gj] at h3;omega
       have hX:=cq (((kQ.pl z D l s').and (kQ.cE f.sv f.l)).and (kQ.sl 106 3 (.slice qa ps.length qc) ps.length (gY ps)));have hs:=cq (((dw z D l s').still (eT f.sv f.l)).still (eI 106 3 (.slice qa ps.length qc) ps.length (gY ps) ae ae))
       go_upto_region 27 with(refine aaz S hX.o hs.o i3.o ae (λhl R=>?_) (λq L' W a7 S c6=>?_))
       . obtain⟨Z,hZ⟩:=c8 ((dh (Sn.map Prod.fst)).mergeSort (λx y=>decide (x<=y)));have HZ:=cq (show Z.Perm (dh (Sn.map Prod.fst)) from hZ▸mergeSort_perm _ _);have i8:=cq (show∀x∈Z,0<=x/\x<=4294967296 from λx hx=>by
          have:=HZ.o.mem_iff.1 hx;unfold dh at this;simp only[fM] at this;obtain⟨_,⟨q,hq,rfl⟩,rfl⟩:=this;have:=V.o.1 q (R.mem_iff.1 hq);omega)
         have i9:=cq (show Z.length<=100000000 by have:=HZ.o.length_eq;simp[dh] at this;omega);have j1:=cq (show nA Z=nA (m.1.map λq=>((q.1:Nat):Int)) from WY (HZ.o.trans (by unfold dh;rw[sK];exact R.map _)));have Y:=cq (show(Sn.filter λq=>!q.2.2).length=(m.1.filter λq=>!q.2.2).length from(R.filter _).length_eq);have CS:=cq λ(W:cB)(v:cI)(h:W.ownsRow w.heap.size 3 1 v Sn.length (pB (Sn.map Prod.fst)))=>(show CP_ 90 #[v] W λe w'=>e=.returned (.tuple #[])/\w'.ownsRow w.heap.size 3 1 v Sn.length (Z.map (Value.int .i64))/\W.grownBy w' v.ownBlock from by
          rw[aaA] at h;have:=adT h (by simp[dh];omega);rw[hZ] at this;exact this)
         obtain⟨sr,a9⟩:=c8 (gG (nA Z));have CO:=cq λ(W:cB)(v:cI)(h:W.ownsRow w.heap.size 3 1 v Sn.length (Z.map (Value.int .i64)))=>(show CP_ 91 #[v] W λe w'=>∃v',e=.returned v'/\w'.ownsRow W.heap.size 141 2 v' sr.length (ir sr)/\dz W w' from by
          have:=Vp v Z W (afE h i8.o i9.o);rw[a9] at this;exact this)
         obtain⟨cn,a1⟩:=c8 ((Sn.filter λq=>!q.2.2).length);rw[a1] at S Y;have i4:=cq a9;have i5:=cq (show(s'.dv,((⟨sr,C,m.2,f.l.length,cn⟩:Fg),(0:Int)))=T from by
          rw[<-H.o,<-a9,j1.o,Y.o];rfl)
         clear a9
         go_wp2_with first|refine js 91 2 122 S 3 g7.o (qL rfl rfl) λW S=>?_|(refine ah (CS.o _ _ S.o0) λW⟨ho,hg⟩=>?_;replace S:=S.sorted hg ho)|(refine ag (CO.o _ _ S.o0) λrv W⟨ho,hb⟩=>?_;have h7:=cq (cS ho);replace S:=S.gm hb ho ae ae;obtain⟨va,vc,rfl⟩:=h7.o;obtain⟨AF,f1⟩:=eW (ct 5 (A' (.slice va sr.length vc) (.slice ra C.length rc) ⟨sr,C,m.2,f.l.length,cn⟩));have g7:=cq f1;clear f1)|refine vU S 0 rfl 0 (A' (.slice va sr.length vc) (.slice ra C.length rc) ⟨sr,C,m.2,f.l.length,cn⟩) (λj hj=>by have hj:j<5:=hj;rcases j with(_|_|_|_|_|j)<;>first|rfl) pR rfl rfl rfl af8 λW S=>?_|(refine lC ?_;refine Hid.o ?_)|refine eR ?_
         rw[<-i5.o];exact cq ⟨_,⟨ae,ae⟩,⟨_,_,ae,⟨S.o0,S.o2⟩,by have N:=S.o0;rw[<-i4.o] at N|-;exact mT.sl N,sR S.o2 e8.o.1 e8.o.2⟩,S.x.1.1.1.dev,S.fr⟩
       . obtain⟨AQ,b9⟩:=eW (ct 4 (zW q.2));have e9:yN q.2=.agg AQ:=by rw[b9];rfl
         rw[e9] at c6|-;have d5:=cq b9;have d7:=cq c6;have e3:=cq a7;have j8:=b7;obtain⟨ob,a8⟩:=c8 q.2.2;have b3:=cq (show zW q.2 3=.bool ob by unfold zW;rw[cM jR,a8]);obtain⟨cn,a1⟩:=c8 ((Sn.filter λq=>!q.2.2).length);rw[a1] at S;have j7:cn<=100000000:=by rw[<-a1];exact gO (Ei _ _) g1
         have Y:=cq (show((Sn++[q]).filter λq=>!q.2.2).length=if ob=true then cn else cn+1 by rw[filter_append,ik,a1];cases ob<;>simp[a8]);have a4:=cq (show(Sn++[q]).length=Sn.length+1 by simp);have e6:=cq (show pB ((Sn++[q]).map Prod.fst)=pB (Sn.map Prod.fst)++[.int .i64 q.1] by simp[pB]);clear e9 b9 c6 a7;cases ob with
         |true=>
          go_wp2_with first|refine MG d7.o ae ?_|refine nO S rfl rfl d5.o Yf rfl mB (Ia _) λW S=>?_|refine lK S .i64 (dh [q.1]) oW td cw cw rfl rfl rfl λW S=>?_|refine rK S 0 rfl 0 rfl rfl rfl rfl VS (FR _ _) Br wR λg9 c9 W S=>?_|refine Db S 1 ae 3 (v:=.bool true) b3.o ?_
          have b6:=cq S.x.2.1.left_eq;go_roundw
          case rel=>exact⟨Sn++[q],L',s_ g9 0,c9,(by rw[a4.o]),cq (by have S:=S.pop.pop;rw[a4.o,e6.o,Y.o,cL ae];exact S)⟩
          case measure=>rw[b6.o,b7.o];exact e3.o
         |false=>
          go_wp2_with first|refine jl 114 3 113 S 2 4 (.int .i64 cn) ?_|refine MG d7.o ae ?_|refine nO S rfl rfl d5.o Yf rfl mB (Ia _) λW S=>?_|refine lK S .i64 (dh [q.1]) oW td cw cw rfl rfl rfl λW S=>?_|refine rK S 0 rfl 0 rfl rfl rfl rfl VS (FR _ _) Br wR λg9 c9 W S=>?_|refine Db S 1 ae 3 (v:=.bool false) b3.o ?_|refine vU S 2 rfl 4 (A' (.slice none 0 0) (.slice ra C.length rc) ⟨[],C,m.2,f.l.length,cn+1⟩) (λj hj=>by have hj:j<5:=hj;rcases j with(_|_|_|_|_|j)<;>first|rfl|omega) pR rfl rfl rfl BU λW S=>?_
          have b6:=cq S.x.2.1.left_eq;go_roundw
          case rel=>exact⟨Sn++[q],L',s_ g9 0,c9,(by rw[a4.o];try simp),cq (by have S:=S.pop.pop;rw[a4.o,e6.o,Y.o,cM dU];exact S)⟩
          case measure=>rw[b6.o,b7.o];exact e3.o
end
def CE(K D:Nat)(y:GT)(c:eQ y.b)(w:cB)(h:eK w K D y):
 CP_ 12 #[.pointer (some ⟨K,0,none⟩)] w λe w'=>∃r,e=.returned r/\w'.ownsRow w.heap.size 52 4 r (kR y).length (CD (kR y))/\dz w w':=by obtain⟨G,g,M,b,e,-⟩:=h;have a:=Rf K D G M g y.s (by rw[show g.b.t=y.b from fK GT.b e];exact c) w b;rw[e] at a;exact a
def Jz(K D:Nat)(y:GT)(w:cB)(h:eK w K D y):CP_ 18 #[.pointer (some ⟨K,0,none⟩)] w λe w'=>e=.returned (.int .i64 (eF y.s.mp:Nat))/\w=w':=by obtain⟨G,g,M,a,e,-⟩:=h;exact Qn K G D M g y.s w a
section
theorem aiB(S:St w0 d l L O X w){K:Act->cB->Prop}{t:dC}{by':Nat}(k:vT P t e z by')(f:fT e=false)(i:kO e=false)(h:∀g W,St w0 d l L (⟨e,z,.slice (some ⟨g,0,none⟩) 0 0,0,[]⟩::O) X W->K (a.put (some dst) (.slice (some ⟨g,0,none⟩) 0 0)) W):
 Oper.wp P ⟨some dst,.buildSlice t 0 #[],t2,p,af,none⟩ a w K Q:=by
 obtain⟨m,v,j,s,r⟩:=k;obtain⟨u,c,n,o,q⟩:=nB j;have b:(Instr.buildSlice t 0 #[]).run P w=.ok (.slice (s_ w.heap.size 0) 0 0) (w.alloc (.cells #[] e)):=by simp[Instr.buildSlice,xC m,sizeOf,typeInfo,c,Instr.fill,newRow];grind
 unfold Oper.wp execOp;simp only[kj,map_toArray,map_nil,b,mS];exact h _ _ (S.made (cap:=0) dU (fN _) f i)
end
section
attribute[local irreducible]wpList Code.wp Calls Oper.wp wpAnyH
theorem ahl(K D:Nat)(x:GT)(l:E0 x)(o:Rs)(A:fJ)(L:A=ct 6 (opF o))(f:o.name.size<=140737488355328)(u:o.toN.size<=140737488355328)(H:o.data.length<=140737488351232)(w:cB)(h:eK w K D x)(T:dC)(z:∀W,Fr (some D) [K] w W->cK W T 1 (.slice o.da o.data.length o.dc) o.data.length (dH o.data))(p:∀y∈o.data,y<256):
 CP_ 11 #[.pointer (some ⟨K,0,none⟩),.agg A] w λe w'=>(∃B s,e=.returned (.tuple #[.agg B,.int .i64 (zV x o.toOpT).2.2])/\B=ct 128 (cN s))/\eK w' K D (zV x o.toOpT).1/\Fr (some D) [K] w w':=by
 have S:=St.start w (some D) [K] (wP K D x) h.x;obtain⟨⟨d,b,v,n,t,N⟩,I,J,Q,R⟩:=o;simp only at f u H z p|-;obtain⟨⟨y,O,c⟩,a⟩:∃T,zV x ⟨d,b,v,n,t,N⟩=T:=⟨_,ae⟩;have U:=cq L;have F:=cq p;have G:=cq z;have q:d=1∨d=3∨(d≠0/\d≠1/\d≠2/\d≠3/\d≠4/\d≠5/\d≠6/\d≠7/\d≠8/\d≠9)∨d=0∨d=2∨d=4∨d=5∨d=6∨d=7∨d=8∨d=9:=cw;rw[a];simp only;clear L h z p;rcases q with rfl|rfl|⟨n0,n1,n2,n3,n4,n5,n6,n7,n8,n9⟩|rfl|rfl|rfl|rfl|rfl|rfl|rfl|rfl;have C:=cq λba bc W(X:eK W K D x)E=>Eb K D x l b f n t ba bc W X E;rw[show dB x (nF b n t)=(y,c) from wY (fK Prod.fst a:) (fK (λr=>r.2.2) a:)] at C;clear a;go_enter func11,ntmps11;go_upto_region 5 with(first|refine jl 7 3 6 S 1 0 (.int .i64 1) ?_|refine ey λW S=>?_);refine dN S cX [⟨w.heap.size,41,6,opF ⟨⟨1,b,v,n,t,N⟩,I,J,Q,R⟩⟩] Be λW S=>?_;refine fW 0 (.agg zeroCells36) ae (xO ae PV) ?_;refine cJ 1 _ ?_;refine cJ 2 (cZ w.heap.size 1) ?_;refine cJ 3 (.string b) ?_;refine cJ 4 (cZ w.heap.size 3) ?_;refine cJ 5 (.int .i64 n) ?_;refine cJ 7 (cZ w.heap.size 4) ?_;refine cJ 8 (.slice I t.length J) ?_;refine jQ 6 λK m=>?_;refine aiB S AD ae ae λg W S=>?_;refine fC m ?_;refine jQ 9 λK m=>?_;refine aca S 0 ae ae ae (G.o _ S.fr) AD (zD _) Br wR λG G W S=>?_;refine fC m ?_;refine jQ 10 λK m=>?_;go_wp2_with fail;refine ah (C.o _ _ _ S.x.at ⟨by have E:=S.q0;simp only[ou,ot] at E;exact E,F.o⟩) λW⟨j,i⟩=>?_;replace S:=S.zi j i dU iG iG;refine fC m ?_;refine jQ 11 λK m=>?_;refine ju S 0 ae ae ae uq BT (iJ _) λW S=>?_;refine fC m ?_;refine cJ 12 _ ?_;refine pz ?_;rotate_left;have C:=cq λW(X:eK W K D x)=>Gv K D x l b f n W X;rw[show uJ b n x=(y,O,c) from a] at C;clear a;go_enter func11,ntmps11;rotate_left;obtain⟨rfl,-,rfl⟩:x=y/\eP=O/\(0:Int)=c:=by unfold zV at a;grind
 have e:∀k:Int,d≠k->(d==k)=false:=λk h=>by rw[lx];exact h
 have V:=e 0 n0;have Y:=e 1 n1;have Z:=e 2 n2;have F:=e 3 n3;have F:=e 4 n4;have F:=e 5 n5;have F:=e 6 n6;have F:=e 7 n7;have F:=e 8 n8;have F:=e 9 n9;clear a e n0 n1 n2 n3 n4 n5 n6 n7 n8 n9;go_enter func11,ntmps11;rotate_left;have C:=cq λW(X:eK W K D x)=>Ct K D x l b f n W X;rw[show dB x (mH b n)=(y,c) from wY (fK Prod.fst a:) (fK (λr=>r.2.2) a:)] at C;clear a;go_enter func11,ntmps11;rotate_left;have C:=cq λW(X:eK W K D x)=>QY K D x l b f n W X;rw[show dB x (sD b n)=(y,c) from wY (fK Prod.fst a:) (fK (λr=>r.2.2) a:)] at C;clear a;go_enter func11,ntmps11;rotate_left;have C:=cq λW(X:eK W K D x)=>QW K D x l b f W X;rw[show dB x (vB b)=(y,c) from wY (fK Prod.fst a:) (fK (λr=>r.2.2) a:)] at C;clear a;go_enter func11,ntmps11;rotate_left;have C:=cq λW(X:eK W K D x)=>NL K D x l b v f u W X;rw[show dB x (qJ b v)=(y,c) from wY (fK Prod.fst a:) (fK (λr=>r.2.2) a:)] at C;clear a;go_enter func11,ntmps11;rotate_left;have C:=cq λW(X:eK W K D x)=>JO K D x l b f W X;rw[show dB x (lQ b)=(y,c) from wY (fK Prod.fst a:) (fK (λr=>r.2.2) a:)] at C;clear a;go_enter func11,ntmps11;rotate_left;have C:=cq λW(X:eK W K D x)=>QX K D x l b f W X;rw[show dB x (tE b)=(y,c) from wY (fK Prod.fst a:) (fK (λr=>r.2.2) a:)] at C;clear a;go_enter func11,ntmps11;rotate_left;have C:=cq λW(X:eK W K D x)=>Bp K D x l b f W X;rw[show dB x (dQ b)=(y,c) from wY (fK Prod.fst a:) (fK (λr=>r.2.2) a:)] at C;clear a;go_enter func11,ntmps11;rotate_left;have C:=cq λW(X:eK W K D x)=>A7 K D x l W X;rw[show dB x iR=(y,c) from wY (fK Prod.fst a:) (fK (λr=>r.2.2) a:)] at C;clear a;go_enter func11,ntmps11
 all_goals
  go_wp2_with first|(first|refine jl 7 3 6 S 1 0 (.int .i64 3) ?_|refine jl 43 9 42 S 1 1 (.string b) ?_|refine jl 45 3 44 S 1 3 (.int .i64 n) ?_|refine jl 7 3 6 S 1 0 (.int .i64 0) ?_|refine jl 13 9 12 S 1 1 (.string b) ?_|refine jl 15 3 14 S 1 3 (.int .i64 n) ?_|refine jl 7 3 6 S 1 0 (.int .i64 2) ?_|refine jl 35 9 34 S 1 1 (.string b) ?_|refine jl 37 3 36 S 1 3 (.int .i64 n) ?_|refine jl 7 3 6 S 1 0 (.int .i64 4) ?_|refine jl 54 9 53 S 1 1 (.string b) ?_|refine jl 7 3 6 S 1 0 (.int .i64 5) ?_|refine jl 61 9 60 S 1 1 (.string b) ?_|refine jl 63 9 62 S 1 2 (.string v) ?_|refine jl 7 3 6 S 1 0 (.int .i64 6) ?_|refine jl 70 9 69 S 1 1 (.string b) ?_|refine jl 7 3 6 S 1 0 (.int .i64 7) ?_|refine jl 77 9 76 S 1 1 (.string b) ?_|refine jl 7 3 6 S 1 0 (.int .i64 8) ?_|refine jl 84 9 83 S 1 1 (.string b) ?_)|(refine ag (C.o _ S.x.at) λB W⟨M,j,i⟩=>?_;have z:=cq M;replace S:=S.zi j i dU iG bd;clear M)|refine jl 7 3 6 S 1 0 (.int .i64 d) ?_|(refine ah (C.o _ S.x.at) λW⟨j,i⟩=>?_;replace S:=S.zi j i dU iG bd)|(refine ah (C.o _ S.x.at) λW⟨j,i⟩=>?_;replace S:=S.zi j i dU iG bd)|(refine ah (C.o _ S.x.at) λW⟨j,i⟩=>?_;replace S:=S.zi j i dU iG bd)|(refine ah (C.o _ S.x.at) λW⟨j,i⟩=>?_;replace S:=S.zi j i dU iG bd)|(refine ah (C.o _ S.x.at) λW⟨j,i⟩=>?_;replace S:=S.zi j i dU iG bd)|(refine ah (C.o _ S.x.at) λW⟨j,i⟩=>?_;replace S:=S.zi j i dU iG bd)|(refine ah (C.o _ S.x.at) λW⟨j,i⟩=>?_;replace S:=S.zi j i dU iG bd)|refine jl 7 3 6 S 1 0 (.int .i64 9) ?_|(refine ah (C.o _ S.x.at) λW⟨j,i⟩=>?_;replace S:=S.zi j i dU iG bd)|refine ey λW S=>?_|refine eR ?_|(refine lC ?_;exact⟨⟨_,_,ae,ae⟩,S.x.at,S.fr⟩)
def ahm(K D:Nat)(x:GT)(k:E0 x)(o:Rs)(A:fJ)(j:A=ct 6 (opF o))(f:o.name.size<=140737488355328)(g:o.toN.size<=140737488355328)(d:o.data.length<=140737488351232)(w:cB)(h:eK w K D x)(T:dC)(i:∀W,Fr (some D) [K] w W->cK W T 1 (.slice o.da o.data.length o.dc) o.data.length (dH o.data))(c:∀y∈o.data,y<256):
 CP_ 11 #[.pointer (some ⟨K,0,none⟩),.agg A] w λe w'=>(∃B,e=.returned (.tuple #[.agg B,.int .i64 (zV x o.toOpT).2.2]))/\eK w' K D (zV x o.toOpT).1/\Fr (some D) [K] w w':=
 (ahl K D x k o A j f g d w h T i c).mono λe w2 ⟨⟨B,_,a,_⟩,b⟩=>⟨⟨B,a⟩,b⟩
end
def aaB{x:GT}(d:NO x y)(R:Ring y.s.dv.nw y.ub)(f:Fit y)(C:y.s.dv.cO=false)(N:∀s∈y.b.cE,tt s):∃v r,wz y.s.dv=(v,(r,0))/\zj r=true/\Wr (λ_=>False) y.s.dv v:=by
 have G:=d.uL;have X:=G.n;obtain⟨M,o,U⟩:=aao R C cw;obtain⟨text,ats,c,L,F⟩:=d.laid;rw[<-d.b] at c;rw[<-d.n] at L;have E:(eZ y.s.dv).1.nw=y.s.dv.nw:=funext λa=>o.nw id;obtain⟨v,O,pv,Z,dv⟩:=aap (u:=⟨(eZ y.s.dv).1,qR (y.s.dv.n:Nat),0,0⟩) L G.map G.n c N (G.adv f) U o.n (λa _=>congrFun E a)
 let S:cy->Prop:=λp=>p∈y.dx∨∃s∈y.b.cE,∃k,pt y.s.dv.nw s.cz k≠cH/\pt y.s.dv.nw s.cz k=p
 have hS:∀p q,S p->S q->p.1=q.1->p=q:=by
  rintro p q (h1|⟨s,h1,k,h2,rfl⟩) (h3|⟨t,h3,l,h4,rfl⟩) e
  . exact yQ λQ=>by
     have:=List.pairwise_map.1 G.nd;obtain⟨i,H,rfl⟩:=yk h1;obtain⟨j,I,rfl⟩:=yk h3;have:=GY.1 this;rcases Nat.lt_trichotomy i j with g|g|g
     . exact this i j H I g e
     . subst g;exact Q ae
     . exact this j i I H g e.symm
  . exact absurd ⟨t,l,h3,h4,e.symm⟩ (G.hd p h1).2.1
  . exact absurd ⟨s,k,h1,h2,e⟩ (G.hd q h3).2.1
  . exact(G.ti.tN h1 h3 h2 h4 e).2
 have K:=H' hS true y.dx ([],false) ⟨ae,by simp⟩ λq z=>.inl z;obtain⟨w,b,ws,mk,T,A⟩:=O' (D:=y.s.dv.nw) (n:=y.s.dv.n) hS y.b.cE v _ dv (pv.nn.trans E) (pv.wr.n.trans o.n) (λt c=>⟨G.rd t c,λk J=>⟨(G.ti.bt c J).1,.inr ⟨t,c,k,J,ae⟩⟩⟩) K.1;have V:wz y.s.dv=(w.dv,(⟨gG (nA (b.1.map λm=>((m.1:Nat):Int))),kA y.s.mp 2,b.2,y.b.cE.length,(b.1.filter λm=>!m.2.2).length⟩,0)):=by
  unfold wz;rw[cM (by rw[C];decide),M];unfold Uu;rw[cM dU,cM (by simp only[ku];rw[d.ub.2.2.2.1,<-d.n,o.n];simp),cM (by simp only[ku];rw[d.ub.2.2.1];decide)];simp only[ku];rw[o.n,O];unfold adN;rw[cM dU];simp only;rw[ws];simp only[ne_eq,vQ,lE]
 refine⟨w.dv,_,V,?_,o.trans (pv.wr.trans T.wr)⟩
 . unfold zj;have:gG (nA (b.1.map λm=>((m.1:Nat):Int)))=kA y.s.mp 2:=by
    unfold kA;refine rE λa Y=>?_;unfold nA;rw[decide_eq_decide];have:((a:Int)∈b.1.map λm=>((m.1:Nat):Int))↔a∈b.1.map Prod.fst:=by
     simp only[fM,Int.natCast_inj]
    rw[this,A,K.2];constructor
    . intro h;have:y.s.mp a=2:=by
       rcases h with(h|⟨q,z,rfl⟩)|⟨t,c,k,B,rfl⟩
       . simp at h
       . exact(G.hd q z).1
       . exact G.tk _ ⟨t,k,c,B,ae⟩
      exact⟨by have:=(G.map a).2.1 cw;omega,this⟩
    . rintro⟨_,h⟩;rcases G.ac a h with⟨t,k,c,B,e⟩|⟨q,z,e⟩
      . exact .inr ⟨t,c,k,B,e⟩
      . exact .inl (.inr ⟨q,z,e⟩)
   simp only[this,mk.no];simp
theorem UA(g:64<=n/\n<=400){x:GT}(h:Ok x k)(l:k<=1000)(j:x.s.dv.n=n):∃y,tJ 40 x=some y/\kR y=[]/\
 (mG y.s.dv.nw->(dB y iR).2=0/\eF (dB y iR).1.s.mp=eF (iN (kg n)).1.s.mp/\∃v r,wz (dB y iR).1.s.dv=(v,(r,0))/\zj r=true):=by obtain⟨y,e,I,fr,i⟩:=MA 40 x h.inv;have z:=i (by have:=h.inv.uL.pK;omega);refine⟨y,e,by grind[kR],λf=>?_⟩;obtain⟨c,a,D⟩:=MD (h.far I fr) cw f;obtain⟨_,_,d,b⟩:=Ff g;refine⟨c,?_,?_⟩;rw[Jw D z I.fit,Jw d ae b,fr.n,j];rfl;obtain⟨v,r,w1,m,_⟩:=aaB D a.ring a.inv.fit a.inv.al.1 (by rw[D.b,z];simp);grind
section
variable {x:GT}
structure WZ(w w':cB)(K D:Nat)(x:GT):Prop where
 bel:dz w w'
 ajl:eK w' K D x
 dev:∀k∈nL w' D,w.heap.size<=k
 new:w.heap.size<=K
theorem St.Xa(S:St w0 none l L O X w)(h:WZ w w' K D x)(i:∀r∈L,r.t≠109/\r.t≠106)(j:∀o∈O,o.e≠109/\o.e≠106):St w0 none l L O (Lq w0.heap.size D (JP K D x)) w':=by have a:=S.cx h.bel;refine a.Wg (wW (wP K D x)) ⟨h.ajl.xB λb d=>?_,λk c=>⟨gO S.fr.size (h.dev k c),λf=>tP _ (oS (S.lt k f) (h.dev k c))⟩⟩;rcases gy.1 d with⟨r,g,rfl⟩|⟨o,ho,e⟩;rw[cu.ty (a.row r g).1];grind;rw[uQ (a.own o ho).1 e];grind
theorem St.Yh(S:St w0 none l L O (Lq w0.heap.size D X) w)(f:Fr (some D) l2 w w')(p:∀k∈l2,k∈l∨w0.heap.size<=k)(q:kK (some D) X')(s:X' (dM L O) w'):St w0 none l L O (Lq w0.heap.size D X') w':=by
 have n:=S.x.2;refine⟨⟨f.os.trans S.fr.os,f.tape.trans S.fr.tape,f.output.trans S.fr.output,gO S.fr.size f.size,λk d j=>?_,aH,aH⟩,λr g=>⟨cu.frX (S.row r g).1 f (λi=>(n _ i).2 (gy.2 (.inl ⟨r,g,ae⟩))) (.inl (S.row r g).2.1),(S.row r g).2.1,.inr aH⟩,
  λo ho=>⟨Aq (S.own o ho).1 f (.inr (S.own o ho).2.2) (S.own o ho).2.1,(S.own o ho).2⟩,S.lo,S.nd,⟨s,λk d=>?_⟩,wW q⟩
 have e:=S.fr.block k d j;rw[<-e];refine f.block k (oS d S.fr.size) ?_;rintro⟨t,m,hc⟩;rw[uO e] at m;rcases hc with⟨u,a,b,c⟩|⟨a,b⟩;grind;refine j ⟨t,m,.inr ⟨a,(p k b).resolve_right cw⟩⟩;rcases f.dev D ae k d with h|h;grind;exact⟨gO S.fr.size h,λi=>tP _ (oS (S.lt k i) h)⟩
theorem St.wQ(S:St w0 none l L O (Lq w0.heap.size D X) w)(h:eK w' K D x)(f:Fr (some D) l2 w w')(d:∀k∈l2,k∈l∨w0.heap.size<=k)(i:∀r∈L,r.t≠109/\r.t≠106)(j:∀o∈O,o.e≠109/\o.e≠106):St w0 none l L O (Lq w0.heap.size D (JP K D x)) w':=by have a:=S.Yh f d (fG D x.s.dv) h.dev;refine a.Wg (wW (wP K D x)) ⟨h.xB λb c=>?_,a.x.2⟩;rcases gy.1 c with⟨r,g,rfl⟩|⟨o,ho,e⟩;rw[cu.ty (a.row r g).1];grind;rw[uQ (a.own o ho).1 e];grind
theorem cK.iV(h:cK w0 T sz v n xs)(a:dz w0 w)(f:Fr (some D) l2 w W)(c:∀k∈nL w D,w0.heap.size<=k)(d:∀k∈l2,w0.heap.size<=k):cK W T sz v n xs:=
 h.cx ⟨f.os.trans a.os,f.tape.trans a.tape,f.output.trans a.output,gO a.size f.size,λk b=>(f.block k (oS b a.size) (by
  grind[Oa])).trans (a.block k b)⟩
end
section
attribute[local irreducible]wpList Code.wp Calls Oper.wp wpAnyH
theorem UB(n:Int)(L:ee n)(w:cB):
 CP_ 10 #[.int .i64 n] w λe w'=>if 64<=n/\n<=400 then ∃K D,e=.returned (.tuple #[.pointer (some ⟨K,0,none⟩),.pointer (some ⟨D,0,none⟩)])/\WZ w w' K D (iN (kg n.toNat)).1 else e=.returned (.tuple #[.pointer none,.pointer none])/\dz w w':=by
 by_cases c:64<=n/\n<=400
 . (simp only[cL c];have t:IL n=n.toNat:=by unfold IL;omega);(have s:=cq λW=>aek n L W;rw[t] at s;have v:=Ff (n:=n.toNat) cw;have i:=cq λD W a=>TY D (kg n.toNat) (by show(0:Nat)<=_;omega) W a;rw[v.1] at i;have S:=pF w;obtain⟨x,B⟩:=c8 ((iN (kg n.toNat)).1);obtain⟨d,b⟩:=c8 (kg n.toNat);have C:=cq λ(w:cB)(D r q:Nat)(h:yw w D (xz n.toNat r q) (λ_=>eP) (λ_=>eP))=>(show iK w D d/\∀k∈nL w D,k=D∨k=r∨k=q from b▸adK h);rw[B] at i|-;rw[b] at i;have y:decide (n<(64:Int))=false:=by rw[Pe];omega);(have F:decide ((400:Int)<n)=false:=by rw[Pe];omega);clear B b v t c;go_enter func10,ntmps10;go_upto_region 4 with(first|(go_at_call 37;refine(s.o _).mono ?_;rintro e W ⟨D,r,q,rfl,⟨b,I⟩,G,o,m⟩;obtain⟨b,f⟩:=C.o _ _ _ _ b;have p:=S.fr.size;have l:=λk g=>S.lt k g;replace S:=(S.cx I).Wg (wW (n:=w.heap.size) (fG D d)) ⟨b,λk g=>⟨by rcases f k g with rfl|rfl|rfl<;>omega,λM=>by grind⟩⟩;clear b f G o m p l));go_wp2_with (first|(go_at_call 38;refine ag (i.o D _ S.x.1) λu W⟨A,J⟩=>?_;obtain⟨K,rfl,H,z⟩:=A.1 ae;have E:=cq (gO S.fr.size H);replace S:=St.wQ S z J dU dU dU;clear A z));go_ret2;exact⟨K,D,ae,S.b,S.x.1.at,λk g=>(S.x.2 k g).1,E.o⟩
 . simp only[cM c];go_enter func10,ntmps10;by_cases j:n<64
   . have y:decide (n<(64:Int))=true:=fQ j;clear c;go_wp2;go_ret2;exact⟨ae,fO _ _⟩
   . (have y:decide (n<(64:Int))=false:=iC j;have F:decide ((400:Int)<n)=true:=by rw[decide_eq_true_iff];omega);clear c j;go_wp2;go_ret2;exact⟨ae,fO _ _⟩
def Rm(D:Nat)(d:Dv)(w:cB)(a:iK w D d):
 CP_ 20 #[.pointer (some ⟨D,0,none⟩)] w λe w'=>e=.returned (.bool (decide ((wz d).2.2=0)&&zj (wz d).2.1))/\iK w' D (wz d).1/\Fr (some D) [] w w':=by
 have S:=St.start w (some D) [] (fG D d) a;have n:=cq λW(X:iK W D d)=>Uz D d W X;obtain⟨T,t⟩:=c8 (wz d);rw[t] at n|-;obtain⟨z,r,c⟩:=T;simp only at n|-;clear t;go_enter func20,ntmps20;go_upto_region 2 with(first|(with_reducible first|refine jb 3 91 S zeroValue91 afB λW S=>?_|refine js 91 3 8 S 0 o.o (qL rfl rfl) λW S=>?_)|(go_at_call 35;refine ag (n.o _ S.x) λA W⟨⟨G,J,s,⟨p,q⟩,l,m⟩,u,v⟩=>?_;have o:=cq s;have k:=cq (And.intro (show(∀x∈r.aiG,ee x.1/\ee x.2)/\r.aiG.length<=9223372036854775807 from by obtain⟨_,_,_,a,b,_⟩:=l;exact⟨b,a⟩) (show(∀x∈r.taken,ee x.1/\ee x.2)/\r.taken.length<=9223372036854775807 from by obtain⟨_,_,_,a,b,_⟩:=m;exact⟨b,a⟩));have i:=cq (cS p);have j:=cq (cS q);replace S:=((S.call v ar dU (fG D z) (λB h=>u)).Ka (base:=w.heap.size) (by simp[dM]) p ae ae).Ka (base:=w.heap.size) (by simp[dM]) q ae ae;clear u v s l m p q;obtain⟨E,F,rfl⟩:=i.o;obtain⟨H,I,rfl⟩:=j.o;clear i j));by_cases hc:c=0
 . (have C:(c==(0:Int))=true:=by rw[yl];exact hc);have y:=cq λW l m=>Pa _ _ r A o.o W l m;have f:decide (c=0)=true:=fQ hc;have g:=cq f;clear hc f;go_wp2_with (first|(with_reducible refine jj 13 91 3 S 0 o.o ?_)|(go_at_call 36;refine je S (y.o _ (S.x.1.2.1.Rk k.o.1.1 k.o.1.2) (S.x.2.1.Rk k.o.2.1 k.o.2.2)) λW S=>?_));go_ret;exact⟨by simp[g.o],S.x.1.1,S.fr⟩
 . (have C:(c==(0:Int))=false:=by rw[lx];exact hc);have f:decide (c=0)=false:=iC hc;have g:=cq f;clear hc f;go_wp2;go_ret;exact⟨by simp[g.o],S.x.1.1,S.fr⟩
end
section
end
section
variable {x y:Nat}{ty:dC}
end
def Rn(next:Nat):Nat->List (Nat×fh)->List cR->Bool
 |_,_,[]=>true
 |last,seen,x::r=>eC x&&decide (last<x.id)&&decide (x.id<next)&& !seen.any (λc=>decide (c.1=(dE x).1/\c.2.data.toList=(dE x).2.data.toList))&&Rn next x.id (seen++[dE x]) r
theorem Yi(next:Nat):∀(l:List cR)(e:Nat)(d:List (Nat×fh)),ny next e d l=Rn next e d l
 | [],_,_=>rfl
 |x::r,e,d=>by
  unfold ny Rn;rw[Yi next r];have:Cp d (dE x)=d.any (λc=>decide (c.1=(dE x).1/\c.2.data.toList=(dE x).2.data.toList)):=by
   rw[wg,zP,any_eq_true];constructor
   . grind
   . rintro⟨⟨a,b⟩,g,f⟩;obtain⟨h,i⟩:=lr f
     grind[ByteArray.ext,Array.ext']
  rw[this]
def ahn(next:Nat)(l:List cR):Bool:=
 if 281474976710655<next∨32<l.length then false else
 Rn next 0 [] l&&l.all λx=>jG l x&&iI l x
theorem aiC:mf=ahn:=by grind[mf,ahn,Yi]
def aho(n:Nat)(a:List cy)(h g:Pl×(cD×List cy×Int)):dS×(List (Int×Int)×(List cy×Int)):=
 match kJ h.2.1 with
 |none=>(rP,([],([],91)))
 |some nl=>if ahn nl.1 nl.2=false then(rP,([],([],91))) else
  match oj (n:Nat) g.2.1 with
  |none=>(rP,([],([],91)))
  |some zs=>(⟨nl.1,nl.2⟩,(zs,((a++h.2.2.1)++g.2.2.1,0)))
theorem aiD:ml3=aho:=by funext n t h g;grind[ml3,aho,aiC]
def ahp(a:Pl×(cD×List cy×Int)):Pl×(dS×(List (Int×Int)×(List cy×Int))):=
 let h:=iX a.1 (a.2.1.take 20)
 if h.2.2.2≠0 then(h.1,(rP,([],([],Bk h.2.2.2)))) else
 let g:=iX h.1 (a.2.1.drop 20)
 if g.2.2.2≠0 then(g.1,(rP,([],([],Bk g.2.2.2)))) else(g.1,aho g.1.dv.n a.2.2.1 h g)
theorem aiE:ml1=ahp:=by grind[ml1,ml2,ahp,aiD]
def Yj(s:Pl)(gJ:cy):Pl×(dS×(List (Int×Int)×(List cy×Int))):=
 let b:=dP s gJ 40
 if b.2.2.2≠0 then(b.1,(rP,([],([],Bk b.2.2.2)))) else ahp b
theorem adV:ji=Yj:=by grind[ji,Yj,aiE]
def Xb:fh:=⟨#[118]⟩
def al1:GT:=(iN (kg 64)).1
def al2:GT×Int:=dB al1 (mH Xb 4)
def al3:GT×Int:=dB al2.1 (nF Xb 1 [97])
def al4:GT×Int:=dB al3.1 iR
def ahq(d:Dv):GT×Int:=
 if d.cO=true then(tG d,42) else
 let u:=eZ d
 if u.2.isSome=false then(tG u.1,91) else
 if(u.2.getD lz).fB≠u.1.n then(tG u.1,91) else
 if(u.2.getD lz).len≠40 then(tG u.1,91) else
 let r:=Yj ⟨u.1,qR u.1.n,0,0⟩ (u.2.getD lz).gJ
 if r.2.2.2.2≠0 then(tG r.1.dv,r.2.2.2.2) else
 if 281474976710652<(u.2.getD lz).lD∨281474976710652<r.2.1.next∨281474976710652<(u.2.getD lz).cA then(tG r.1.dv,192) else
 (⟨r.2.1,r.2.2.2.1,u.2.getD lz,⟨r.1.dv,Cs r.1.mp (ox r.2.2.1),iA (u.2.getD lz).cA,(u.2.getD lz).cA⟩⟩,0)
theorem aiF:oP=ahq:=by grind[oP,zT,Dm,ahq,adV]
def ahr(r:Pl×(dS×(List (Int×Int)×(List cy×Int)))):Dv×(Fg×Int):=
 if r.2.2.2.2≠0 then(r.1.dv,(yj,r.2.2.2.2)) else
 let w:=vM r.2.1.cE r.1 (o7 true r.2.2.2.1 ([],false))
 if w.2.2≠0 then(w.1.dv,(yj,w.2.2)) else
 (w.1.dv,(⟨gG (nA (w.2.1.1.map λm=>((m.1:Nat):Int))),r.2.2.1,w.2.1.2,r.2.1.cE.length,(w.2.1.1.filter λm=>!m.2.2).length⟩,0))
def adW(d:Dv):Dv×(Fg×Int):=
 if d.cO=true then(d,(yj,42)) else
 let u:=eZ d
 if u.2.isSome=false then(u.1,(yj,91)) else
 if(u.2.getD lz).fB≠u.1.n then(u.1,(yj,91)) else
 if(u.2.getD lz).len≠40 then(u.1,(yj,91)) else
 ahr (Yj ⟨u.1,qR u.1.n,0,0⟩ (u.2.getD lz).gJ)
def ahs:wz=adW:=by funext d;unfold wz Uu adW;rw[adV];rfl
def al5:GT×Int:=ahq (wD al4.1.s.dv [])
def al6:GT×(cD×Int):=uJ Xb 1 al5.1
def al7:Dv×(Fg×Int):=adW al6.1.s.dv
def adX:(((iN (kg 64)).2=0/\al2.2=0)/\al3.2=0/\al4.2=0)/\(al5.2=0/\(kR al5.1).length=1)/\(al6.2.2=0/\al6.2.1.getD 0 0=97)/\al7.2.2=0/\zj al7.2.1=true/\al7.2.1.blocks=3:=by decide+kernel