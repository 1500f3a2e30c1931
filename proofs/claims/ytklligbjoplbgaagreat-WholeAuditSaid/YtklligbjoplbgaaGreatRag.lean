/- Part 7 of the proof of WholeAudit. No conditions. -/
import Derived.Test.YtklligbjoplbgaaGreatRaf
import Derived.Shelf.Sort.Plain
import Derived.Sort.OwnSortedInts
import Derived.Shelf.Slices.In.SortNone
import Derived.Lib.SortBridge
import Derived.Lib.SlBytesConst
set_option linter.all false
open List renaming length->List.n
open String renaming length->String.n
open Array renaming size->Array.s,toList->Array.t
open ByteArray renaming size->ByteArray.s
open Go.TypeInfo renaming size->Go.TypeInfo.s
open Go.RowKit.Below renaming size->Go.RowKit.Below.s
open Option renaming toList->Option.t,some->cu,none->cw
open Go.World renaming heap->Go.World.h
open Int renaming toNat->Int.m
open Go.Value renaming int->bU,agg->bV,pointer->bW,slice->bX,string->bY,bool->bZ,tuple->cg
open Go.Ending renaming returned->cj
open Go.IntKind renaming i64->cq,u64->ct
open Bool renaming true->cx,false->cy
namespace Go.Proofs.YtklligbjoplbgaaGreat
set_option maxRecDepth 100000
set_option maxHeartbeats 64000000
open Go.RowKit Lib List Nat _root_.Go.Proofs.Tryz Go.Shelf
variable {A:gJ}{a:Act}{af:Array Edge}{ops:Array Oper}{Q:Exit->Act->cS->Prop}{y:GT}{B ats bs l l2 text:cV}{X X':cV->cS->Prop}{C tk:List (Int×Int)}{zs:List Int}{ts:List cV}{O:List O4}{rest:List Oper}{dI:List cQ}{L:List R4}{xs:List c7}{D K N b b0 base c dst k n r st sz z:Nat}{m:Nat->Nat}{o:Option Func}{d:Option Nat}{P:oN}{t:Pl×(cQ×(List cQ×Int))}{q top:cQ}{S:cQ->Prop}{s:du}{p:String}{T e t2:dW}{u:qZ}{v:c7}{W w w' w0:cS}
noncomputable def cn(p:Nat->Prop):Nat->Nat
 |0=>0
 |k+1=>cn p k+ @ite _ (p k) (Classical.propDecidable _) 1 0
theorem SP{p q:Nat->Prop}(h:∀a,a<k->p a->q a):cn p k<=cn q k:=by induction k with|zero=>simp_all[cn]|succ k ih=>have:=ih λa b=>h a cN;have g:=h k cN;unfold cn;grind
theorem NY{p q r:Nat->Prop}(h:∀a,a<k->(r a↔p a∨q a)/\¬(p a/\q a)):cn r k=cn p k+cn q k:=by induction k with|zero=>rfl|succ k ih=>have:=ih λa b=>h a cN;have g:=h k cN;unfold cn;grind
theorem VQ{p q:Nat->Prop}(h:∀a,a<k->(p a↔q a)):cn p k=cn q k:=by have:=SP (k:=k) λa b=>(h a b).1;have:=SP (k:=k) λa b=>(h a b).2;omega
theorem IS{k:Nat}:cn (λ_=>False) k=0:=by induction k<;>grind[cn]
theorem ai3(h:b<k):cn (λa=>a=b) k=1:=by induction k with|zero=>omega|succ k ih=>unfold cn;by_cases e:b=k;(subst e;have:cn (λa=>a=b) b=cn (λ_=>False) b:=VQ λa c=>by simp;omega);grind[IS];grind
theorem ZZ{k:Nat}:∀(l:cV),l.Nodup->(∀a∈l,a<k)->cn (·∈l) k=l.n
 | [],_,_=>by simp[IS]
 |b::l,h,g=>by
  rw[yo] at h;rw[NY (p:=λa=>a=b) (q:=(·∈l)) λa _=>⟨by simp,λ⟨e,e2⟩=>h.1 (e▸e2)⟩,ai3 (g b nB),ZZ l h.2 λa c=>g a (kT _ c),lq];omega
theorem VR(m:Nat->Nat):fI m=cn (λa=>m a=1) 1024:=by
 rw[En];have:∀k,qt m 0 k=cn (λa=>m a=1) k:=by intro k;induction k with|zero=>rfl|succ k ih=>simp_all[BO,cn]
 grind
theorem sU.all(h:sU n m)(d:n<=1024)(c:4<=n):fI m+cn (λa=>m a=2) 1024+cn (λa=>m a=3) 1024=n-4:=by
 have b:∀k,cn (λa=>4<=a/\a<n) k=min k n-4:=by intro k;induction k<;>grind[cn]
 rw[VR,<-NY (r:=λa=>m a=1∨m a=2) λa _=>⟨.rfl,cN⟩,<-NY (r:=λa=>4<=a/\a<n) λa _=>?_,b];omega;have:=h a;omega
theorem z8(x:GT):Bj x=0↔0<nq x.b x.s.dv.n/\nq x.b x.s.dv.n<=fI x.s.mp/\2*nq x.b x.s.dv.n<=fI x.s.mp+x.dI.n:=by simp_all[Bj,Bc]
theorem Z0{x:GT}(G:Good x):cn (λa=>∃q∈x.dI,q.1=a) 1024=x.dI.n:=by rw[VQ (q:=(·∈x.dI.map Prod.fst)) λa _=>by grind,ZZ _ G.nd λa b=>?_,mQ];obtain⟨q,c,rfl⟩:=gT.1 b;have:=(G.hd q c).1;have:=(G.map q.1).2.1 cN;have:=G.n;omega
def C'.count{x:GT}(D:C' x y):fI y.s.mp+cn (λa=>y.s.mp a=2) 1024=x.s.dv.n-4:=by
 have:=D.ql.map.all D.ql.n.2 (by have:=D.ql.n;omega);have e:cn (λa=>y.s.mp a=3) 1024=0:=by rw[VQ (q:=λ_=>False) λa _=>by simp;exact D.free a,IS]
 rw[<-D.n];omega
theorem C'.fit{x:GT}(G:Good x)(D:C' x y)(h:Bj x=0):Bj y=0:=by
 rw[z8] at h|-;have j:=Z0 D.ql;have i:=Z0 G;have d:=D.count;have f:=G.map.all G.n.2 (by have:=G.n;omega);have b:=NY (p:=λa=>x.s.mp a=2/\¬∃q∈x.dI,q.1=a) (q:=λa=>∃q∈y.dI,q.1=a) (r:=λa=>y.s.mp a=2) (k:=1024) λa _=>⟨(D.two a).1,λ⟨h1,h2⟩=>by
  rcases(D.two a).2 h2 with h|h<;>grind⟩
 have c:=NY (p:=λa=>x.s.mp a=2/\¬∃q∈x.dI,q.1=a) (q:=λa=>∃q∈x.dI,q.1=a) (r:=λa=>x.s.mp a=2) (k:=1024) λa _=>⟨⟨λh=>by grind,λh=>h.elim And.left λ⟨q,hq,e⟩=>e▸(G.hd q hq).1⟩,λh=>h.1.2 h.2⟩;rw[D.b,D.n];have g:y.dI.n=nq x.b x.s.dv.n:=by rcases sg x.b with⟨⟨t,e,_⟩,_⟩|⟨e,_⟩;rw[D.dI t e];unfold nq at*;grind;grind[nq]
 omega
def Fit(x:GT):Prop:=Bj x=0
theorem xx{x:GT}(F:Fit x){k:GT->GT×Int}(b:(k x).1.s.dv.n=x.s.dv.n)(a:(k x).2=0->Fit (k x).1):Fit (dX x k).1:=by grind[dX,r9,Fit,z8,asked]
theorem Z2{x:GT}{r:ej×Int}(h:(pI x r).2=0):Fit (pI x r).1:=by unfold pI at*;split at h;omega;next h1=>rw[cX h1];exact h
theorem VS{x:GT}(F:Fit x)(cT:fM)(n:Int):Fit (dX x (my cT n)).1:=by refine xx F ?_ λh=>?_<;>unfold my at*;split;rfl;unfold pI;split<;>rfl;split at h;cases h;simp_all[cX,Z2]
theorem Yx{x:GT}(F:Fit x)(f t:fM):Fit (dX x (qL f t)).1:=by refine xx F ?_ λh=>?_<;>unfold qL at*;split;rfl;unfold pI;split<;>rfl;split at h;cases h;simp_all[cX,Z2]
theorem ab5{x:GT}(F:Fit x)(cT:fM):Fit (dX x (vl cT)).1:=by refine xx F ?_ λh=>?_<;>unfold vl at*;grind[tW];split at h;cases h;next h1=>split at h;omega;simp_all[cX,Fit,iH]
theorem afc{id:Nat}{iW:List cQ}{x:GT}(h:(r8 id top iW x).2=0):Fit (r8 id top iW x).1:=by unfold r8 zn at*;split at h;grind[vF];next h1=>rw[cX h1];exact h
theorem VT{id:Nat}{x:GT}(h:(sS id x t).2=0):Fit (sS id x t).1:=by unfold sS at*;split at h;grind[vF];simp_all[afc]
theorem afd{id:Nat}{x:GT}(h:t.1.dv.n=x.s.dv.n):(sS id x t).1.s.dv.n=x.s.dv.n:=by grind[sS,r8,zn,qj]
theorem Yy{x:GT}(G:Good x)(b:lI x.s.dv.nw)(c:gU x.s.cR)(F:Fit x)(cT:fM)(i:Int)(bs:cV)(a:∀y∈bs,y<256):Fit (dX x (mM cT i bs)).1:=by
 refine xx F ?_ λh=>?_<;>unfold mM at*;split;rfl;split;rfl;next h _=>exact afd (SL b c G.n.2 G.map (G.two (G.JC cN).1) a).1.wr.n
 split at h;omega;next h1=>split at h;cases h;simp_all[cX,VT]
theorem ab6{x:GT}(G:Good x)(a:lI x.s.dv.nw)(b:gU x.s.cR)(F:Fit x)(cT:fM)(i:Int):Fit (dX x (rH cT i)).1:=by
 refine xx F ?_ λh=>?_<;>unfold rH at*;split;rfl;next h=>exact afd (Lq a b G.n.2 G.map (G.two (G.JC cN).1)).1.wr.n
 split at h;omega;simp_all[VT]
theorem KI{b:Nat->Nat}(h:∀a,m a=1->b a=1):fI m<=fI b:=by simp_all[VR,SP]
theorem JG:∀(l:List cQ)(s:Pl)(a:Nat),s.mp a=1->(dM s l).mp a=1
 | [],_,_,h=>h
 |q::l,s,a,h=>by
  refine JG l (pZ s q).1 a ?_;have e:∀v,sO s.mp q.1 2 v a=1:=λv=>by unfold sO isB kE;split<;>simp_all;intro e;subst e;omega
  unfold pZ;split
  . exact h
  split<;>exact e _
theorem Yz{x:GT}(F:Fit x)(j:y.s.dv.n=x.s.dv.n)(i:y.dI=x.dI)(f:∀a,x.s.mp a=1->y.s.mp a=1)(h:y.b.next=x.b.next)(b:y.b.cU.n<=32)(d:(∀s∈x.b.cU,fC s=cx)->∀s∈y.b.cU,fC s=cx)(e:fg y.b.cU<=fg x.b.cU):Fit y:=by
 unfold Fit at*;rw[z8] at*;have g:x.b.next<=281474976710655/\∀s∈x.b.cU,fC s=cx:=by grind[sg,nq]
 have c:=ab4 (n:=x.s.dv.n) F.1 (c:=y.b) cN b (d g.2) e;have:=KI f;grind
theorem JH:∀(l:List du)(k:Nat)(y:du),k<l.n->fg (l.set k y)+xG (dH l k)=fg l+xG y
 | [],k,y,h=>by simp at h
 |s::l,0,y,_=>by grind[fg,dH]
 |s::l,k+1,y,h=>by
  have:=JH l k y bP;unfold fg dH at*;simp at*;omega
theorem Ed:∀(l:List du)(k:Nat),k<l.n->fg (l.eraseIdx k)+(2+xG (dH l k))=fg l
 | [],k,h=>by simp at h
 |s::l,0,_=>by grind[fg,dH]
 |s::l,k+1,h=>by
  have:=Ed l k bP;unfold fg dH at*;simp at*;omega
theorem ab7(l:List du)(g:du->du)(h:∀s,xG (g s)=xG s):fg (l.map g)=fg l:=by grind[fg,map_congr_left]
theorem QG{x:GT}(F:Fit x){b:ej}{iW:du}(c:b.next=x.b.next)(d:b.cU.n<=32)(e:(∀s∈x.b.cU,fC s=cx)->∀s∈b.cU,fC s=cx)(f:fg b.cU<=fg x.b.cU)(h:(oM b iW x).2=0):Fit (oM b iW x).1:=by have p:=zr x.s iW.cO (gr x.b.cU iW.id);unfold oM vm at*;generalize fR x.s iW.cO (gr x.b.cU iW.id)=r at*;split at h;grind[vF];next h0=>rw[cX h0];exact Yz F (by show(dM r.1 r.2.1).dv.n=_;rw[qj];exact p.1.wr.n) ae (λa g=>JG _ _ a jH) c d e f
theorem Z3(b:ej)(iW:du)(x:GT):(oM b iW x).1.s.dv.n=x.s.dv.n:=by have p:=(zr x.s iW.cO (gr x.b.cU iW.id)).1.wr.n;grind[oM,vm,qj]
theorem qw(s:du):fC s=cx↔(1<=s.id/\s.id<=281474976710655)/\(1<=s.cZ/\s.cZ<=281474976710655)/\s.dB<=281474976710655/\(1<=s.blocks/\s.blocks<=64)/\ff s.name=cx/\im s.cO=cx/\s.df.n<=4000/\ou s.df=cx/\(if s.dz=cx then 1<=s.cR/\s.cR<=281474976710655 else s.cR=0/\s.cZ=s.id):=by simp_all[fC,and_assoc]
theorem ab8{x:GT}(G:Good x)(F:Fit x)(cT:fM):Fit (dX x (uC cT)).1:=by refine xx F ?_ λh=>?_<;>unfold uC oB at*;grind[Z3];split at h;omega;next h1=>rw[cX h1];unfold jI at*;split at h1;grind[nK];next i c hi=>have b:=qM G hi;split at h1;simp at h1;next j hj=>have e:=kR hj;simp only[hi,hj] at h|-;refine QG F ae amg (λa s d=>?_) ?_ h;rcases(G.inc.set b.1 s).1 d with h|rfl;exact a s h.1;grind[qw,ou];grind[JH,xG]
theorem GI{p q r:cQ}(h:nY p q=cx)(g:nY q r=cx):nY p r=cx:=by grind[nY]
theorem Cq(l:List cQ):ou l=cx↔(∀q∈l,yX q=cx)/\l.Pairwise λp q=>nY p q=cx:=by unfold ou tP;rw[rJ];constructor;(intro h;have b:∀q∈l,yX q=cx:=λq e=>by obtain⟨i,c,rfl⟩:=yk e;simp_all);(have g:∀i,(a:i+1<l.n)->nY l[i] l[i+1]=cx:=λi a=>by have:=h (i+1) (zA.2 a);grind);refine⟨b,I6.2 λi j c f d=>?_⟩;induction j<;>grind[GI];grind[pairwise_iff_getElem]
theorem Cr:∀(a b r:List cQ),a.Pairwise (λp q=>nY p q=cx)->b.Pairwise (λp q=>nY p q=cx)->jR a b=cu r->r.Pairwise (λp q=>nY p q=cx)/\r.n=a.n+b.n
 | [],b,r,_,h,e=>by grind[jR]
 |p::a,[],r,h,_,e=>by grind[jR]
 |p::a,c::b,r,h,g,e=>by
  rw[Da] at h g;unfold jR at e;split at e
  . next h1=>
    obtain⟨r',f,rfl⟩:=Ad.1 e;have k:=Cr a (c::b) r' h.2 (Da.2 g) f;refine⟨Da.2 ⟨λq d=>?_,k.1⟩,by grind⟩;rcases(yf _ _ _ f q).1 d with d|d
    . grind
    . rcases iX.1 d with rfl|d
      . exact h1
      grind[GI]
  split at e
  . next _ h1=>
    obtain⟨r',f,rfl⟩:=Ad.1 e;have k:=Cr (p::a) b r' (Da.2 h) g.2 f;refine⟨Da.2 ⟨λq d=>?_,k.1⟩,by grind⟩;rcases(yf _ _ _ f q).1 d with d|d
    . rcases iX.1 d with rfl|d
      . exact h1
      grind[GI]
    grind
  . cases e
termination_by a b=>a.n+b.n
theorem SQ{x:GT}(G:Good x)(F:Fit x)(cT:fM):Fit (dX x (lf cT)).1:=by
 refine xx F ?_ λh=>?_<;>unfold lf at*;grind[eW,oB,Z3,ud,qj]
 cases n:eW cT with
 |none=>grind
 |some p=>
  rw[n] at h;simp only[Option.elim] at h|-;split at h;next hv=>rw[c8 hv];unfold oB at*;split at h;omega;next h1=>rw[cX h1];unfold fx at*;split at h1;grind[nK];next i c hi=>have b:=qM G hi;split at h1;simp at h1;next hw=>simp only[hi,hw,mS] at h|-;refine QG F ae (ik (I5 _ _) G.qD) (λd s f=>d s (Bz f)) ?_ h;grind[Ed]
  next hv=>rw[cX hv];unfold ud at*;split at h;cases h;next h1=>split at h;omega;next h2=>rw[cX h1,cX h2];unfold eu at*;split at h2;simp at h2;next vs hfs=>split at h2;simp at h2;next i hi=>split at h2;simp at h2;next hcl=>split at h2;simp at h2;next j hj=>split at h2;simp at h2;next all hall=>split at h2;simp at h2;next hlen=>simp only[hfs,hi,hcl,hj,hall,hlen,mS];obtain⟨y,sn⟩:=vs;have b:=sa G.inc (se hfs).1 hi;have g:=kR hj;refine Yz F (by grind[qj]) ae (λa m=>JG _ _ a m) ae (ik (I5 _ _) amg) (λd s f=>?_) ?_;rcases vB (Bz f) with h|rfl;grind;have a:=(qw _).1 (d _ g.2.1);have c:=(qw _).1 (d _ (kr b.1).1);have k:=(Cq _).1 a.2.2.2.2.2.2.2.1;have u:=(Cq _).1 c.2.2.2.2.2.2.2.1;have t:=Cr _ _ _ (k.2.sublist filter_sublist) u.2 hall;rw[qw];refine⟨a.1,a.2.1,c.2.2.1,a.2.2.2.1,a.2.2.2.2.1,a.2.2.2.2.2.1,by grind,(Cq _).2 ⟨λq o=>?_,t.1⟩,a.2.2.2.2.2.2.2.2⟩;rcases(yf _ _ _ hall q).1 o with h|h;exact k.1 q (Ax.1 h).1;grind;(have v:all.n<=(dH x.b.cU j).df.n+(dH x.b.cU i).df.n:=by(have:∀(a b r:List cQ),jR a b=cu r->r.n=a.n+b.n:=by intro a b;fun_induction jR a b<;>intro r e;grind;grind;(next ih=>obtain⟨r',l,rfl⟩:=Ad.1 e;grind);(next ih=>obtain⟨r',l,rfl⟩:=Ad.1 e;grind);cases e);grind[oZ]);(have w:=JH x.b.cU j {dH x.b.cU j with df:=all,dB:=(dH x.b.cU i).dB} g.1;have t2:=Ed (x.b.cU.set j {dH x.b.cU j with df:=all,dB:=(dH x.b.cU i).dB}) i jH;show fg ((x.b.cU.set j _).eraseIdx i)<=_;by_cases e:i=j);grind[dH];(have:dH (x.b.cU.set j {dH x.b.cU j with df:=all,dB:=(dH x.b.cU i).dB}) i=dH x.b.cU i:=by simp_all[dH,pU]);grind[xG]
theorem SR{x:GT}(G:Good x)(F:Fit x)(cT:fM):Fit (dX x (lY cT)).1:=by refine xx F ?_ λh=>?_<;>unfold lY at*;split<;>rfl;split at h;omega;next h1=>rw[cX h1];obtain⟨v,i,j,e,sn,_⟩:=Cp G h1;rw[e];refine Yz F ae ae (λa d=>d) ae (by show(map _ _).n<=32;simp;exact G.qD) (λb s f=>?_) (Nat.le_of_eq (ab7 _ _ λ_=>ae));obtain⟨t,g,rfl⟩:=gT.1 f;have a:=(qw _).1 (b t g);have c:=(qw _).1 (b v i);rw[qw];grind
structure VU(x y:GT):Prop where
 dI:y.dI=x.dI
 ub:y.ub=x.ub
 base:y.s.base=x.s.base
 st:x.s.cR<=y.s.cR/\y.s.cR<=x.s.cR+1
 nx:y.b.next<=x.b.next+1
theorem NZ(n:Nat):iR n<=n+1:=by grind[iR]
theorem VU.refl(x:GT):VU x x:=⟨ae,ae,ae,cN,cN⟩
theorem xy{x:GT}{k:GT->GT×Int}(h:(k x).2=0->VU x (k x).1):VU x (dX x k).1:=by unfold dX r9;split;exact .refl x;split;exact⟨ae,ae,ae,by simp[asked],by simp[asked]⟩;grind
theorem N0{x:GT}{r:ej×Int}(h:r.1.next<=x.b.next+1):VU x (pI x r).1:=by unfold pI rG;split;exact .refl x;exact⟨ae,ae,ae,by simp,h⟩
theorem VV(x:GT)(cT:fM)(n:Int):VU x (dX x (my cT n)).1:=by grind[xy,NZ,my,N0,iO,u']
theorem YA(x:GT)(f t:fM):VU x (dX x (qL f t)).1:=xy λ_=>by have:=NZ x.b.next;unfold qL;split;exact .refl x;refine N0 ?_;unfold jA u';grind
theorem ab9(x:GT)(cT:fM):VU x (dX x (vl cT)).1:=xy λ_=>by have:=NZ x.b.next;unfold vl;split;exact .refl x;next h=>split;exact .refl x;refine⟨ae,ae,ae,?_,?_⟩;grind[qU,tW];grind[iH,rG]
theorem SU(x:GT)(cT:fM):VU x (dX x (lY cT)).1:=xy λ_=>by unfold lY;split;exact .refl x;refine⟨ae,ae,ae,by simp[rG],?_⟩;grind[fT,rG]
theorem JI(l:List cQ):∀s:Pl,(dM s l).cR=s.cR/\(dM s l).base=s.base:=by
 induction l with
 |nil=>intro s;exact aE
 |cons q l ih=>
  intro s;have:=ih (pZ s q).1;have e:(pZ s q).1.cR=s.cR/\(pZ s q).1.base=s.base:=by unfold pZ;grind
  simp_all[dM]
theorem QH(b:ej)(iW:du)(x:GT)(h:b.next<=x.b.next+1):VU x (oM b iW x).1:=by have p:=zr x.s iW.cO (gr x.b.cU iW.id);unfold oM vm;split;exact⟨ae,ae,p.1.ba,by show _<=Pl.cR _/\Pl.cR _<=_;rw[p.1.st];omega,by grind⟩;have d:=JI (fR x.s iW.cO (gr x.b.cU iW.id)).2.1 (fR x.s iW.cO (gr x.b.cU iW.id)).1;exact⟨ae,ae,d.2.trans p.1.ba,by show _<=(dM _ _).cR/\(dM _ _).cR<=_;rw[d.1,p.1.st];omega,h⟩
theorem aca(x:GT)(cT:fM):VU x (dX x (uC cT)).1:=by grind[xy,uC,oB,QH,jI]
theorem SV(x:GT)(cT:fM):VU x (dX x (lf cT)).1:=xy λ_=>by unfold lf;cases eW cT with|none=>exact .refl x|some p=>simp only[Option.elim];split;unfold oB;split;exact .refl x;grind[QH,fx];unfold ud;split;exact .refl x;split;exact .refl x;have d:=JI (eu x.b cT).2.1 x.s;refine⟨ae,ae,d.2,by grind,?_⟩;show(eu x.b cT).1.next<=_;unfold eu;grind
theorem VW{A:Nat->Prop}{id:Nat}{x:GT}(h:PW A x.s t.1):VU x (sS id x t).1:=by unfold sS;split;exact anv;unfold r8 zn;split;exact anv;have d:=JI (jV (gV x.b id t.2.1) id t.2.2.1).2.1 t.1;refine⟨ae,ae,d.2.trans h.ba,by show _<=(dM _ _).cR/\(dM _ _).cR<=_;rw[d.1,h.st];omega,?_⟩;grind[jV,gV]
theorem YB{x:GT}(G:Good x)(b:lI x.s.dv.nw)(c:gU x.s.cR)(cT:fM)(i:Int)(bs:cV)(a:∀y∈bs,y<256):VU x (dX x (mM cT i bs)).1:=xy λ_=>by unfold mM;split;exact .refl x;split;exact .refl x;next h _=>exact VW (SL b c G.n.2 G.map (G.two (G.JC cN).1) a).1
theorem acb{x:GT}(G:Good x)(a:lI x.s.dv.nw)(b:gU x.s.cR)(cT:fM)(i:Int):VU x (dX x (rH cT i)).1:=xy λ_=>by unfold rH;split;exact .refl x;next h=>exact VW (Lq a b G.n.2 G.map (G.two (G.JC cN).1)).1
theorem Fit.right{x:GT}(F:Fit x):∀s∈x.b.cU,fC s=cx:=by unfold Fit at F;rw[z8] at F;rcases sg x.b with⟨_,k⟩|⟨e,_⟩<;>grind[nq]
theorem Good.afe{x:GT}(G:Good x)(b:s∈x.b.cU)(f:s.dz=cx):∃j c,fp x.b.cU (qS x.b.cU s.id)=cu j/\dH x.b.cU j=c/\c∈x.b.cU/\c.dB=s.id/\c.cZ=s.cZ:=by
 obtain⟨k,g,h⟩:=G.inc.CM b;obtain⟨c,hc,o,p⟩:=G.zt.nxt b f;have n:qS x.b.cU s.id=((x.b.cU.filter λt=>decide (t.dB=s.id)).find? λt=>decide (t.cZ=s.cZ)).elim 0 du.id:=by simp_all[qS]
 cases a:((x.b.cU.filter λt=>decide (t.dB=s.id)).find? λt=>decide (t.cZ=s.cZ)) with|none=>grind|some d=>have m:=find?_some a;have e:=Ax.1 (QU a);obtain⟨j,i,l⟩:=G.inc.CM e.1;grind
theorem Good.cP{x:GT}(G:Good x):∀(k:Nat)(s:du),x.s.cR-s.cR<=k->s∈x.b.cU->s.dz=cx->∃v∈x.b.cU,v.dz=cy/\s.cR<=gr x.b.cU v.id
 |0,s,hk,hs,hn=>by have:=G.ti.st hs hn;omega
 |k+1,s,hk,hs,hn=>by
  obtain⟨c,hc,a,f⟩:=G.zt.nxt hs hn;cases h:c.dz with
  |true=>
   have:=(G.zt.xQ hc hs a.symm).2.1 h;have:=G.ti.st hc h;obtain⟨v,m,i,l⟩:=G.cP k c cN hc h
   grind
  |false=>
   obtain⟨n,b,d⟩:=G.inc.CM hc;obtain⟨j,e,g⟩:=G.inc.CM hs;refine⟨c,hc,h,?_⟩;unfold gr;rw[b];simp only[d];rw[cX (by rw[a];exact G.ti.pos hs),a,e];grind
theorem YC{e:Int}(l: -1<=e)(d:iY e C=cx)(f:Nat->Bool)(m:∀n:Nat,rL C (n:Int)=cx->f n=cy):
 ∃g,ry f (C.map (Prod.mk cx))=cu g/\∀n:Nat,g n=if rL C (n:Int)=cx then cx else f n:=by
 induction C generalizing e f with
 |nil=>exact⟨f,ae,λn=>by simp[rL]⟩
 |cons x r ih=>
  have h:=(il _ _ _).1 d;have o:=(gl _ _).1 h.1;have i:qA f x.1.m cx x.2.m=cy:=by
   unfold qA;rw[<-Bool.not_eq_true,any_eq_true]
   grind[kU]
  obtain⟨g,b,c⟩:=ih (e:=x.1+x.2) cN h.2.2 (yz f x.1.m cx x.2.m) (λn j=>by
   have:=sk h.2.2 j;unfold yz;rw[cX cN]
   grind[kU])
  refine⟨g,(show ry f ((x::r).map (Prod.mk cx))=_ by grind[GV]).trans b,λn=>?_⟩;rw[c n];by_cases k:rL r (n:Int)=cx
  . simp_all[kU]
  . rw[cX k];unfold yz;by_cases a:x.1.m<=n/\n<x.1.m+x.2.m
    . rw[c8 a,c8 ((kU _ _ _).2 (.inl cN))]
    . rw[cX a,cX]
      grind[kU]
theorem IT{l:List (Int×Int)}(h:gY l=cx):pN [] l=l.map (Prod.mk cx):=by
 have a:jS [] l=[]:=by rfl
 have b:jS l []=l:=by unfold jS;rw[show iE (λn=>ru l n&& !ru [] n)=iE (qx l) from tq λn _=>by simp[ru,h,qx,rL]];exact Dh h
 unfold pN;rw[c8 (by simp[h];rfl),a,b];simp
theorem YD{l:List (Int×Int)}(h:gY l=cx):uO [] (pN [] l)=cu l:=by
 rw[IT h];obtain⟨g,a,b⟩:=YC (C:=l) (e:=-1) (Int.le_refl _) h (qx []) (λn _=>by rfl);unfold uO;rw[c8 (show gY []=cx from ae),a];show cu (iE g)=_
 conv=>rhs;rw[<-Dh h]
 grind[tq,qx,rL]
theorem N3(f:Nat->Bool):∀k,2*(gE f k).n<=k+(if 0<k/\f (k-1)=cx then 1 else 0)
 |0=>by simp[gE]
 |k+1=>by
  have c:=N3 f k;have a:=QW f k;unfold gE;cases b:f k with
  |false=>grind
  |true=>
   simp only[oQ,QP,b];unfold LG
   grind
def N4{f:Nat->Bool}{n:Nat}(h:∀a,n<=a->f a=cy):∀j,gE f (n+j)=gE f n
 |0=>rfl
 |j+1=>by
  show(if f (n+j)=cx then LG (gE f (n+j)) (n+j) else gE f (n+j))=_;rw[h (n+j) cN,cX eQ];exact N4 h j
theorem N5(C:64<=n)(D:n<=1024)(t:sU n m):∃b,jB (n:Nat) (kF m 2)=cu b/\pH (n:Nat) b=cu (kF m 2):=by
 have sl:fZ (n:Nat)=2+5*((n+1)/2):=by unfold fZ;grind
 have l:gY (kF m 2)=cx:=qV _;have w:∀a:Int,rL (kF m 2) a=cx↔0<=a/\a<1024/\m a.m=2:=λa=>by grind[kF,zE]
 have inr:∀a,m a=2->4<=a/\a<n:=λa h=>(t a).2.1 cN;have u:2*(kF m 2).n<=n+1:=by
  unfold kF iE;have e:=N4 (f:=λa=>decide (a<1024/\m a=2)) (n:=n) (λa F=>by
   grind) (4096-n)
  rw[show n+(4096-n)=4096 by omega] at e;rw[e];have:=N3 (λa=>decide (a<1024/\m a=2)) n
  grind
 have c:∀x∈kF m 2,kt x.1 x.2=cx:=λx g=>by obtain⟨i,q,rfl⟩:=yk g;exact GQ l q
 have o:∀x∈kF m 2,4<=x.1/\x.1+x.2<=n:=λx g=>by have s:=(gl _ _).1 (c x g);have z:rL (kF m 2) x.1=cx:=List.any_eq_true.2 ⟨x,g,by simp;omega⟩;have A:rL (kF m 2) (x.1+x.2-1)=cx:=List.any_eq_true.2 ⟨x,g,by simp;omega⟩;grind
 have d:pz (pN [] (kF m 2))=cu ((pN [] (kF m 2)).flatMap tu):=by refine LW ?_ λk r=>?_;grind[IT];simp only[IT l,getElem_map] at r|-;exact c _ (mP jH)
 have B:=Na d;have I:(pN [] (kF m 2)).n=(kF m 2).n:=by grind[IT]
 generalize hlog:(pN [] (kF m 2)).flatMap tu=log at*;have j:jB (n:Nat) (kF m 2)=cu (qO 2 (pN [] (kF m 2)).n++rn log++replicate (fZ (n:Nat)-(2+log.n)) 0):=by unfold jB;rw[cX jH,cX,d];grind;rintro⟨E,p⟩;unfold Jz Qn at p;cases G:kF m 2<;>grind[getLast_mem,getLast?_eq_getLast]
 refine⟨_,j,?_⟩;have H:=IQ j;have tk:(qO 2 (pN [] (kF m 2)).n++rn log++replicate (fZ (n:Nat)-(2+log.n)) 0).take 2=qO 2 (pN [] (kF m 2)).n:=by rfl
 have J:(rn log).n=log.n:=by grind
 unfold pH;rw[cX cN,tk,q9 2 _ cN,cX cN];have v:((qO 2 (pN [] (kF m 2)).n++rn log++replicate (fZ (n:Nat)-(2+log.n)) 0).take (2+5*(pN [] (kF m 2)).n)).drop 2=rn log:=by grind
 have y:dN (rn log)=log:=by
  unfold dN rn;rw[wU];conv=>rhs;rw[<-map_id log]
  apply map_congr_left;grind[DW]
 rw[v,y,(TP d).1];show(uO [] (pN [] (kF m 2))).bind _=_;rw[YD l];show(jB (n:Nat) (kF m 2)).bind _=_;rw[j];simp
theorem KJ{D:Nat->cV}{cO:cQ}{all:List cQ}(h:Ea D n st cO bs all ats)(d:1<=st)(e:st<=281474976710655)(c:∀a∈ats,4<=a/\a<1024):im cO=cx:=by have a:=c _ (h.perm.mem_iff.1 (gT.2 ⟨cO,h.top,ae⟩));have b:=(h.st cO h.top).1;simp_all[im]
theorem aff{s:Pl}(D:1<=s.cR)(j:s.cR<=281474976710655)(J:lI s.dv.nw)(C:64<=s.dv.n/\s.dv.n<=1024)(Y:sU s.dv.n s.mp)(I:s.dv.al)(G:∀x∈text,x<256)(V:1<=text.n/\text.n<=65535)(H:ats.Nodup)(F:ats.n=1+jT (text.n:Nat)+jT (fZ (s.dv.n:Nat):Nat))(U:∀a∈ats,s.mp a=2/\4<=a/\a<s.dv.n):
 (gO s text ats).2.2.2=0/\(gO s text ats).1.dv.al/\(gO s text ats).2.1.1∈ats/\(gO s text ats).2.1.2.1=s.cR:=by
 have F:gU s.cR:=by grind[gU]
 have R:ats.n-1<ats.n:=cN;have split:ats=ats.take (jT (text.n:Nat))++((ats.take (ats.n-1)).drop (jT (text.n:Nat))++[ats.getD (ats.n-1) 0]):=by
  have R:ats.take (jT (text.n:Nat))=(ats.take (ats.n-1)).take (jT (text.n:Nat)):=by grind
  grind[append_assoc,take_append_drop,drop_eq_getElem_cons]
 have d:=H;rw[split,yp,yp] at d;have K:ats.getD (ats.n-1) 0∈ats:=by grind
 have k:∀a∈ats.take (jT (text.n:Nat)),a∈ats:=λa h=>lP h;have H:∀a∈ats,4<=a/\a<1024:=λa h=>by grind
 have A:=ER D F J C.2 G d.1;have t:=A.2.2 I (λa h=>U a (k a h)) j V.1 V.2 jH;unfold gO mw2;generalize fG s text (ats.take (jT (text.n:Nat)))=X at*;obtain⟨Q,n,G⟩:=X;simp only at A t|-;subst t;obtain⟨_,f,G,l,R⟩:=A.1 ae;have ZP:Q.mp=s.mp:=A.2.1;rw[cX eQ,f.wr.n,ZP];obtain⟨g,r,_⟩:=N5 C.1 C.2 Y;rw[r];simp only;have sl:=IQ r;have J:=ER (s:=Q) (by rw[f.st];exact D) (by rw[f.st];exact F) G (by rw[f.wr.n];exact C.2) sl.2 d.2.1.1;have z:1<=g.n/\g.n<=65535:=by rw[sl.1];unfold fZ;rw[cX cN];omega
 have u:=J.2.2 (f.wr.al I) (λa h=>by rw[ZP,f.wr.n];grind) (by rw[f.st];exact j) z.1 z.2 (by rw[uf,lO,sl.1];omega);unfold mw3;generalize fG Q g ((ats.take (ats.n-1)).drop (jT (text.n:Nat)))=Y at*;obtain⟨w,o,F⟩:=Y;simp only at J u|-;subst u;obtain⟨_,E,F,m,G⟩:=J.1 ae;rw[f.wr.n,f.st] at G;have F:=KJ R D j λa h=>H a (k a h);have F:=KJ G D j λa h=>H a ((λa h=>lP (mR h)) a h);have F:At n text.n o g.n=cu (Bq n text.n o g.n):=by grind[At,qi,Bq]
 rw[cX eQ,F];simp only;generalize hc:ats.getD (ats.n-1) 0=c at*;have p:=Bp w c (Bq n text.n o g.n);have T:=NS (s:=w) (i:=(c:Int)) (b:=Bq n text.n o g.n);have F:=U c K;have al2:=E.wr.al (f.wr.al I);have J:w.dv.n=s.dv.n:=(E.wr.n).trans f.wr.n;have v:=p.2.2.2 al2 (by rw[ZX];omega) jH cN cN;unfold mw4;generalize eY w c (Bq n text.n o g.n)=Z at*;obtain⟨y,q,F⟩:=Z;simp only at p T v|-;subst v;obtain⟨_,lt,I,nw⟩:=p.2.2.1 ae;have O:PW (λa=>a=c) w y:=p.1.mono λa h=>h.1;have N:c∉(ats.take (ats.n-1)).drop (jT (text.n:Nat)):=λh=>d.2.1.2.2 c h c nB ae;have L:∀a∈ats.take (jT (text.n:Nat)),a∉(ats.take (ats.n-1)).drop (jT (text.n:Nat)):=λa h F=>d.2.2 a h a (LF _ F) ae;have F:Ea y.dv.nw s.dv.n s.cR n text l (ats.take (jT (text.n:Nat))):=R.congr λa B=>(O.nw a λe=>(λh=>d.2.2 c h c (FT _ nB) ae) (e▸B)).trans (E.nw a (L a B));have H:Ea y.dv.nw s.dv.n s.cR o g m ((ats.take (ats.n-1)).drop (jT (text.n:Nat))):=G.congr λa B=>O.nw a λe=>N (e▸B);have G:y.dv.n=s.dv.n:=(O.wr.n).trans J;obtain⟨V,J,M,R⟩:=F.load y (T ae) G λ_ _=>ae;obtain⟨t2,F,U,Y⟩:=H.load V R.2 ((M.wr.n).trans G) λa _=>by rw[M.nn]
 rw[cX eQ,J];unfold mw5;simp only[ne_eq,yu,mS,F];have F:q=(c,s.cR,kZ (pD (Bq n text.n o g.n))):=by rw[I,E.st,f.st]
 exact⟨iC,U.wr.al (M.wr.al (p.1.wr.al al2)),by grind,by rw[F]⟩
theorem Z4{x:GT}(G:Good x)(F:Fit x)(v:lI x.s.dv.nw)(r:x.s.dv.al)(J:x.s.cR<=281474976710652)(K:x.ub.kJ<=281474976710652)(d:∀text,jh x.b=cu text->∀c∈text,c<256)(H:x.b.next<=281474976710652):(gD x).2=0/\(gD x).1.s.dv.al/\gD x=iS x:=by
 have u:=G.n;have X:=F;unfold Fit at F;rw[z8] at F;unfold gD;rw[cX (by rw[r.1];simp),cX cN,cX cN];rcases sg x.b with⟨⟨text,m,M⟩,k⟩|⟨e,_⟩;case inr=>grind[nq]
 have l:nq x.b x.s.dv.n=nE text.n x.s.dv.n:=by unfold nq at F|-;grind
 unfold iS gg;rw[m];simp only;have lt:∀q∈x.dI,q.1<1024:=λq I=>by have:=(G.hd q I).1;have:=(G.map q.1).2.1 cN;omega
 have B:=rf x.dI x.s lt;generalize hs1:dM x.s x.dI=s1 at*;obtain⟨i,d2,Z,j⟩:=B;have Y:=KI i.aiW;rw[d2];have E:nE text.n x.s.dv.n<=fI s1.mp:=cN;rw[cX cN];have mo:zQ s1.mp (nE text.n x.s.dv.n:Nat)=cu (iJ s1.mp (nE text.n x.s.dv.n)):=by simp_all[zQ]
 have C:xk s1.mp (nE text.n x.s.dv.n:Nat)=(iJ s1.mp (nE text.n x.s.dv.n)).1:=by grind[xk]
 have D:AL s1.mp (nE text.n x.s.dv.n:Nat)=(iJ s1.mp (nE text.n x.s.dv.n)).2:=by grind[AL]
 rw[C,D];obtain⟨n,o,N,w⟩:=JF s1.mp _ E;generalize iJ s1.mp (nE text.n x.s.dv.n)=MN at*;obtain⟨ats,g⟩:=MN;simp only at n o N w|-;have mk:sU x.s.dv.n s1.mp:=λa=>⟨i.le (λa=>(G.map a).1) a,by have:=(G.map a).2;have:=i.zero a;grind⟩;have p:sU x.s.dv.n g:=λa=>by have h:=mk a;by_cases b:a∈ats<;>grind
 have t:∀a∈ats,4<=a/\a<x.s.dv.n:=λa b=>(mk a).2.1 jH;have z:=aff (s:=⟨x.s.dv,g,s1.cR,s1.base⟩) (by show 1<=s1.cR;rw[j];exact G.VL) jH v u p r (text:=text) (d text m) (by grind[fg]) o (by rw[n];rfl) (λa b=>⟨(w a).1 b,t a b⟩);have y:=NT (s:=⟨x.s.dv,g,s1.cR,s1.base⟩) (by show 1<=s1.cR;rw[j];exact G.VL) bG v u.2 (text:=text) (d text m) o (by rw[n];rfl) (λa b=>by grind);generalize gO ⟨x.s.dv,g,s1.cR,s1.base⟩ text ats=W at*;obtain⟨f,q,dI,c⟩:=W;simp only at z y|-;obtain⟨c0,al2,Q,qb⟩:=z;subst c0;obtain⟨L,A,O⟩:=y ae;unfold q8;simp only[ne_eq,yu,mS];have R:f.dv.n=x.s.dv.n:=A.wr.n;have T:f.cR=x.s.cR:=A.st.trans j;have V:kC (qk x (f,(q,(dI,0))))=cx:=by
  have fq:=t q.1 Q;have qn:q≠cY:=λe=>by grind[cY]
  have rq:im q=cx:=by unfold im;rw[qQ];right;have:=G.VL;omega
  have:=G.VL;have e3:iR x.ub.kJ=x.ub.kJ+1:=qU cN;unfold kC qk;grind
 have U:=(Eb f.dv (qk x (f,(q,(dI,0))))).2.2 al2 V cN;rw[cX cN];exact⟨ae,U.2,by trivial⟩
theorem Z5{ts:List cV}(h:∀t∈ts,t.n<=65535)(q:cV):∀k,k<=ts.n->qB k (ts.flatMap uQ++q)=cu (ts.take k,(ts.drop k).flatMap uQ++q)
 |0,_=>by rfl
 |k+1,hk=>by
  have a:k<ts.n:=cN;have b:=h ts[k] (mP a);unfold qB;rw[Z5 h q k cN,Db a];have tk:EZ ((ts[k]::ts.drop (k+1)).flatMap uQ++q)=cu (ts[k],(ts.drop (k+1)).flatMap uQ++q):=by
   rw[Bu];have e:uQ ts[k]=ts[k].n%256::ts[k].n/256::ts[k]:=rfl;rw[e];show(if ts[k].n%256+256*(ts[k].n/256)<=_ then _ else _)=_;have:ts[k].n%256+256*(ts[k].n/256)=ts[k].n:=cN
   simp_all
  simp_all
theorem N6{r:cV}(h:ui ts=cu r):vV r=cu ts:=by
 obtain⟨b,a,rfl⟩:=Cf h;have e:vw ts.n++ts.flatMap uQ=ts.n%256::ts.n/256:: (ts.flatMap uQ++[]):=by simp[vw]
 rw[e];unfold vV;simp only;have:ts.n%256+256*(ts.n/256)=ts.n:=cN;rw[this,Z5 a [] ts.n (eN _)];simp
theorem JJ:∀(ws ns rest:cV),ns.n=ws.n->fitAll ws ns=cx->py ws (kY ws ns++rest)=ns
 | [],[],_,_,_=>rfl
 | [],_::_,_,h,_=>by simp at h
 |_::_,[],_,h,_=>by simp at h
 |w::ws,n::ns,rest,h,g=>by
  unfold fitAll at g;simp only[wT,qQ] at g;unfold kY py;have l:=gm w n;rw[xJ,take_append_of_le_length cN,nV cN,q9 w n g.1,drop_append_of_le_length cN,Dc cN,pL,JJ ws ns rest bP g.2]
theorem afg(s:fM):Wp (rS s)=s:=by
 unfold Wp rS;rw[wU];have:(UInt8.ofNat ∘ UInt8.toNat)=id:=by funext x;simp
 simp_all
theorem Z6:∀(l:List cQ)(k:Nat),(∀q∈l,dD q/\im q=cx)->k<=l.n->td k (qg l)=cu (l.take k)
 |l,0,_,_=>rfl
 |l,k+1,h,hk=>by
  have a:k<l.n:=cN;unfold td;rw[Z6 l k h cN];simp only;have e:((qg l).drop (16*k)).take 16=iT l[k]:=by
   have d:qg l=qg (l.take k)++(iT l[k]++qg (l.drop (k+1))):=by
    unfold qg
    conv=>lhs;rw[<-Ac k l,Db a,flatMap_append,Bu]
   rw[d,drop_append_of_le_length (by rw[wh,lO];omega),Dc (by rw[wh,lO];omega),pL,take_append_of_le_length (by rw[gh];exact eN _),nV (by rw[gh];exact eN _)]
  have b:=h l[k] (mP a);rw[e,xu b.1 b.2,yl a]
theorem acd{l:List cQ}(e:l.n<=4000)(c:ou l=cx)(a:∀q∈l,dD q):k8 (qg l)=cu l:=by unfold k8;have d:=wh l;rw[c8 cN,show(qg l).n/16=l.n by omega,Z6 l l.n (λq b=>⟨a q b,?_⟩) (eN _),qp];simp[c];grind[Cq,yX]
theorem ace{t:cV}(h:o5 s=cu t)(a:tf s):vf t=cu s:=by
 unfold o5 at h;split at h
 next hr=>
  have r:=(qw s).1 hr;unfold vf;rw[N6 h];simp only;have b:(kY qh (pT s)).n=34:=(sy (ws:=qh) (ns:=pT s) ae).trans ae;rw[cX jH,take_append_of_le_length cN,nV cN,drop_append_of_le_length cN,Dc cN,pL];have g:sC qh (kY qh (pT s))=cu (pT s):=by
   unfold sC;have e:=JJ qh (pT s) [] ae (by
    unfold qh pT fitAll;simp only[fitAll,wT,qQ,Bool.and_true]
    grind)
   rw[wV] at e;rw[e,c8 ⟨by decide,b⟩]
  rw[g,xu a.1 r.2.2.2.2.2.1,acd r.2.2.2.2.2.2.1 r.2.2.2.2.2.2.2.1 a.2,afg]
  simp_all[pT]
 cases h
theorem N7:∀(l:List du)(ts:List cV),kI l=cu ts->(∀s∈l,tf s)->mK ts=cu l
 | [],ts,h,_=>by grind[kI,mK]
 |s::l,ts,h,hp=>by
  unfold kI at h;split at h
  . cases h
  next t ht=>
  split at h
  . cases h
  next ts' hts=>
  cases h;unfold mK;rw[ace ht (hp s nB),N7 l ts' hts λx a=>hp x (kT _ a)]
theorem YE{b:ej}{t:cV}(h:jh b=cu t)(d:∀s∈b.cU,tf s):lK t=cu (b.next,b.cU):=by
 unfold jh at h;cases a:jE b.next b.cU with
 |none=>grind
 |some t'=>
  rw[a] at h;simp only at h;split at h;cases h;cases h;have c:=a;unfold jE at a;split at a;cases a
  next hn=>
  split at a;cases a
  next ts hts=>
  have rs:=NX b.cU;have f:ts.n=b.cU.n:=by grind
  unfold lK;rw[N6 a];simp only[lq,headD_cons,drop_succ_cons,drop_zero];rw[cX cN];have g:sC [8] (kY [8] [b.next])=cu [b.next]:=by have e:=JJ [8] [b.next] [] ae (by grind[fitAll]);rw[wV] at e;unfold sC;rw[e,c8 ⟨by decide,sy ae⟩]
  rw[g,N7 _ _ hts d];grind
theorem VX(next:Nat):∀(l:List du)(a:Nat)(b:List (Nat×fM)),(∀s∈l,fC s=cx/\a<s.id/\s.id<next/\dK s∉b)->CY l->(∀s t,s∈l->t∈l->dK s=dK t->s=t)->oE next a b l=cx
 | [],_,_,_,_,_=>rfl
 |x::r,a,b,h,hi,hn=>by
  have c:=h x nB;unfold CY at hi;rw[Da] at hi;unfold oE;simp only[c.1,c.2.1,c.2.2.1,decide_true,LC,wT,Bool.not_eq_true'];refine⟨by grind[DY],VX next r x.id _ (λs d=>?_) hi.2 λs t d e=>hn s t (kT _ d) (kT _ e)⟩
  grind
theorem Good.VY{x:GT}(G:Good x)(F:Fit x):nt x.b.next x.b.cU=cx:=by
 have H:x.b.next<=281474976710655:=by grind[Fit,z8,sg,nq]
 unfold nt;have C:=G.qD;rw[cX cN,wT,rJ];refine⟨VX _ _ _ _ (λs f=>⟨F.right s f,by have:=G.zt.lt f;omega,(G.zt.lt f).2,by simp⟩) G.inc G.names,λs f=>?_⟩;rw[wT];constructor;unfold kz;by_cases i:s.dB=0;rw[c8 i,G.ti.z7 f i];rfl;rw[cX i];obtain⟨p,m,e,sn,_⟩:=G.ti.pr f i;obtain⟨j,n,o⟩:=G.inc.CM m;rw[<-e,n];simp only[o,sn,LC,wT,rJ,qQ];refine⟨?_,λq A=>?_⟩;(cases h:s.dz with|false=>rfl|true=>have:=(G.zt.xQ f m e).2.1 h;simp;omega);obtain⟨u,k,rfl,_⟩:=(G.ti.df f m e).1 A;have:=(G.ti.bt m u).2;simp_all[CX]
 . unfold jN;cases h:s.dz with
   |false=>simp
   |true=>
    (rw[cX eQ];obtain⟨v,B,a,b⟩:=G.zt.own f h;obtain⟨j,n,o⟩:=G.inc.CM B;rw[<-b,n];simp only[o,a,Ly,mS,qQ];rw[b];obtain⟨c,hc,u,z⟩:=G.zt.nxt f h;have w:((x.b.cU.filter λt=>decide (t.dB=s.id)).filter λt=>decide (t.cZ=s.cZ)).Pairwise λa b=>a.id<b.id:=(G.inc.filter _).filter _;have all:∀d∈((x.b.cU.filter λt=>decide (t.dB=s.id)).filter λt=>decide (t.cZ=s.cZ)),d=c:=λd g=>by obtain⟨g,E⟩:=Ax.1 g;obtain⟨g,D⟩:=Ax.1 g;exact G.zt.one f h g hc jH u jH z);have y:c∈((x.b.cU.filter λt=>decide (t.dB=s.id)).filter λt=>decide (t.cZ=s.cZ)):=Ax.2 ⟨Ax.2 ⟨hc,by grind⟩,by grind⟩;generalize ((x.b.cU.filter λt=>decide (t.dB=s.id)).filter λt=>decide (t.cZ=s.cZ))=l at*
    match l,w,all,y with
    | [_],_,_,_=>rfl
    |a::b::r,w,all,_=>
     simp_all
theorem ES(h:kC u=cx)(l:dD u.iG):kf (oX u)=cu u:=by
 have i:=h;unfold kC at i;rw[qQ] at i;have e:oX u=[65,81,70,82]++(qO 8 u.kJ++(qO 8 u.cR++(iT u.iG++(qO 4 u.len++(qO 4 u.gx++(replicate 80 0++qO 4 (kZ (rz u)))))))):=by rfl
 have tk:∀(a b:cV)n,a.n=n->(a++b).take n=a:=λa b n h=>by grind
 have o:∀(a b:cV)n k,a.n=n->(a++b).drop (n+k)=b.drop k:=λa b n k h=>by simp_all[drop_append]
 have j:(oX u).drop 4=qO 8 u.kJ++(qO 8 u.cR++(iT u.iG++(qO 4 u.len++(qO 4 u.gx++(replicate 80 0++qO 4 (kZ (rz u))))))):=by rfl
 have c:(oX u).drop 12=qO 8 u.cR++(iT u.iG++(qO 4 u.len++(qO 4 u.gx++(replicate 80 0++qO 4 (kZ (rz u)))))):=by rfl
 have d:(oX u).drop 20=iT u.iG++(qO 4 u.len++(qO 4 u.gx++(replicate 80 0++qO 4 (kZ (rz u))))):=by rfl
 have f:(oX u).drop 36=qO 4 u.len++(qO 4 u.gx++(replicate 80 0++qO 4 (kZ (rz u)))):=by rfl
 have g:(oX u).drop 40=qO 4 u.gx++(replicate 80 0++qO 4 (kZ (rz u))):=by rfl
 have m:Gk (oX u) u.iG=u:=by unfold Gk;rw[j,c,f,g,tk _ _ 8 (gm 8 u.kJ),tk _ _ 8 (gm 8 u.cR),tk _ _ 4 (gm 4 u.len),tk _ _ 4 (gm 4 u.gx),q9 8 _ cN,q9 8 _ cN,q9 4 _ cN,q9 4 _ cN]
 unfold kf;rw[d,tk _ _ 16 (gh u.iG),xu l i.2.2.2.2.1];simp only;rw[m];unfold kD;rw[c8 h];simp
theorem acf{l:List qZ}(g:u∈l)(h:∀v∈l,v=u∨v.kJ<u.kJ):(oY l).getLast?=cu u:=by
 have c:=(Sort.insertionSort_holds adX l.toArray 0 l.toArray.s (gG _) (eN _));have a:=sF l;have f:=c.2;have sz:=c.1.1;have e:(oY l).toArray=Sort.insertionSort (ltOf λx y:qZ=>Hf x.kJ y.kJ) l.toArray 0 l.toArray.s:=by rfl
 rw[<-e] at f;have b:=a.mem_iff.2 g;have d:oY l≠ []:=ne_nil_of_mem b;rw[getLast?_eq_getLast d];congr 1;obtain⟨i,k,j⟩:=yk b;have n:=a.length_eq;rcases h _ (a.mem_iff.1 (getLast_mem d)) with h1|h1;exact h1;exfalso;by_cases m:i=(oY l).n-1;grind;have:=f i ((oY l).n-1) (gG _) cN sp_;grind[ltOf,Hf]
structure Ring(D:Nat->cV)(u:qZ):Prop where
 here:D (u.kJ%4)=oX u
 right:kC u=cx
 parts:dD u.iG
 iW:∀i,i<4->i≠u.kJ%4->∀v,kf (D i)=cu v->v.kJ%4=i->v.kJ<u.kJ
theorem QI{d:Dv}(R:Ring d.nw u)(n:d.df=cy)(z:4<=d.n):(eZ d).2=cu u/\Wr (λ_=>False) d (eZ d).1/\(eZ d).1.df=cy:=by
 have b:∀(k:Nat),k<=4->Wr (λ_=>False) d (ki d k).1/\(ki d k).1.df=cy/\(∀v∈(ki d k).2,v=u∨v.kJ<u.kJ)/\(u.kJ%4<k->u∈(ki d k).2):=by intro k;induction k with|zero=>intro _;exact⟨.refl _,n,by simp[ki],cN⟩|succ k ih=>(intro y;obtain⟨a,m,j,f⟩:=ih cN;have e:ki d (k+1)=rT (ki d k) k:=by grind[ki,range_succ]);(rw[e];generalize ki d k=x at*;obtain⟨d',l⟩:=x;simp only at a m j f;have wr:=ZM (A:=λ_=>False) d' (k:Int);have c:(iq d' (k:Int)).1.df=cy:=by grind[iq,fm]);(have p:(iq d' (k:Int)).2=(d.nw k,0):=by unfold iq L8;rw[c8 (by rw[a.n];simp;omega),cX (by rw[m];simp)];simp[a.nw id]);unfold rT;simp only[p];rw[cX eQ];by_cases g:k=u.kJ%4;rw[g,R.here,ES R.right R.parts];simp only[oQ];refine⟨a.trans (g▸wr),g▸c,λv B=>?_,λ_=>FT _ nB⟩;grind;cases o:kf (d.nw k) with|none=>exact⟨a.trans wr,c,j,λh=>f cN⟩|some v=>simp only;split;(next h5=>refine⟨a.trans wr,c,λw i=>?_,λh=>LF _ (f cN)⟩;rcases gH.1 i with i|i;grind;rw[fS.1 i];exact .inr (R.iW k cN g v o h5));exact⟨a.trans wr,c,j,λh=>f cN⟩
 obtain⟨q,r,s,t⟩:=b 4 (eN _);exact⟨acf (t (mod_lt _ kM)) s,q,r⟩
theorem YF{u:Pl}{t:cV}(b:u.dv.df=cy)(e:t.n=40)(f:q≠cY)(c:q.1<u.dv.n)(h:u.dv.nw q.1=pD t)(hc:q.2.2=kZ (u.dv.nw q.1)):∃v,eP u q 40=(v,(t,[q],0))/\PW (λ_=>False) u v/\v.mp=u.mp/\v.dv.df=cy:=by
 have g:=Ys (q:=q) b (.inr ⟨c,hc.symm⟩);have a:=NI (A:=λ_=>False) u q;have j:kQ 40=[1]:=by decide
 have k:pG u [q]=((gz u q).1,(pD t,0)):=by simp_all[pG,jW,D5]
 have i:fc u [q] 40=((gz u q).1,(t,0)):=by simp_all[fc,pD]
 refine⟨(gz u q).1,?_,a.1,a.2,(by grind[gz,iq,fm])⟩;unfold eP;rw[cX jH];have d:qT 40=[]:=by rfl
 grind
theorem YG(c:cQ)(a:Nat)(d:cQ)(b:Nat):(Bq c a d b).take 20=iT c++qO 4 a/\(Bq c a d b).drop 20=iT d++qO 4 b:=by unfold Bq;grind[gh,gm,take_left,drop_left]
theorem VZ{u:Pl}{p:cQ}(b:dD p)(c:im p=cx)(a:n<4294967296):j9 u (iT p++qO 4 n)=eP u p (n:Nat):=by grind[gh,j9,xu,q9]
theorem QJ{D:Nat->cV}{b:ej}(L:Laid D n st q text (kF m 2) dI ats)(K:sU n m)(j:64<=n/\n<=1024)(O:jh b=cu text)(M:∀s∈b.cU,tf s)(J:nt b.next b.cU=cx){u:Pl}(I:u.dv.df=cy)(i:u.dv.n=n)(uw:∀a∈ats,u.dv.nw a=D a):∃v,jX u q=(v,(b,(kF m 2,(dI,0))))/\PW (λ_=>False) u v/\v.mp=u.mp/\v.dv.df=cy:=by
 obtain⟨⟨p,r,l,mm,g,a1,a2,e,V,X,R,T,hD,hc,lt,N,z,A,G,t,w,U⟩,_,_⟩:=L;obtain⟨Y,c,d⟩:=N5 j.1 j.2 K;rw[e] at c;cases c;have sl:=IQ e;have tl:text.n<=65535:=by grind[jh]
 have h:g.n<4294967296:=by grind[fZ]
 obtain⟨Z,C,w1,Q,B⟩:=YF (u:=u) (q:=q) I (ZX p text.n r g.n) N cN jH jH;obtain⟨v2,E,f,k⟩:=z.load Z B ((w1.wr.n).trans i) λa H=>by rw[w1.nn];grind
 obtain⟨v3,F,y,o⟩:=A.load v2 k.2 ((f.wr.n).trans ((w1.wr.n).trans i)) λa H=>by rw[f.nn,w1.nn];grind
 have x:=YG p text.n r g.n;refine⟨v3,?_,(w1.trans f).trans y,(o.1.trans k.1).trans Q,o.2⟩;unfold jX;rw[C];simp only[ne_eq,yu,mS];unfold ml1;simp only[x.1];rw[VZ R V cN,E];simp only[ne_eq,yu,mS];unfold ml2;simp only[x.2];rw[VZ T X h,F];simp only[ne_eq,yu,mS];unfold ml3;simp only[YE O M,J,(y.wr.n).trans ((f.wr.n).trans ((w1.wr.n).trans i)),d];rw[cX eQ,G]
theorem QK:∀(l:List Int)(m:Nat->Nat)(a:Nat),(∀i∈l,0<=i/\i<1024)->(∀b,m b=1∨m b=2∨m b=0)->zq m l a=if(a:Int)∈l/\m a=1 then 2 else m a
 | [],m,a,_,_=>by rfl
 |i::l,m,a,h,g=>by
  have d:=h i nB;have e:sO m i 1 2=λb:Nat=>if(b:Int)=i/\m b=1 then 2 else m b:=by
   funext b;have c:isB m i 1=decide (m i.m=1):=by unfold isB;simp[d.1,d.2]
   unfold sO kE;rw[c];by_cases f:m i.m=1<;>simp[f]<;>grind
  have n:=QK l (sO m i 1 2) a (λj k=>h j (kT _ k)) (λb=>by rw[e];have:=g b;show(if _ then _ else _)=1∨_;grind);show zq (sO m i 1 2) l a=_;rw[n,e];simp only[iX];have:=g a
  grind
abbrev Ee:=fM×(Nat×(Nat×fM))
def FN(i:Ee):Nat->c7:=λj=>if j=0 then bY i.1 else if j=1 then bU cq i.2.1 else if j=2 then bU cq i.2.2.1 else bY i.2.2.2
def ET(i:Ee):∀j,(FN i j).oneCell'=cx:=by intro j;unfold FN;split;rfl;split;rfl;split<;>rfl
instance in1942d(i:Ee):OF (FN i):=⟨ET i⟩
def ah1(i:Ee):List c7:=(cM 4 (FN i)).t
def N8(l:List Ee):List c7:=l.flatMap ah1
def zu(l:List du)(s:du):Ee:=(AW l s.id,(s.blocks,(s.df.n,if s.dz=cx then tp else AW l (uZ l s.id).2)))
def Cs(x:GT):List Ee:=x.b.cU.map (zu x.b.cU)
theorem N9(l:List Ee)(i:Ee):N8 (l++[i])=N8 l++(cM 4 (FN i)).t:=by grind[N8,ah1]
def afh:(#[bY ⟨#[]⟩,bU cq 0,bU cq 0,bY ⟨#[]⟩]:gJ)=cM 4 (FN (tp,(0,(0,tp)))):=rfl
instance in5b630 :ZR 52 4 (FN (tp,(0,(0,tp)))):=⟨_,zeroValue52,afh⟩
def akk:ky prog 52 4:=⟨⟨_,underlying52,ae⟩,dC⟩
instance in00884 :s7 52 4:=⟨akk⟩
def ai4:(prog.info? 52).map (λi=>(i.zero,i.s,i.bytes))=cu (cu (bV #[bY ⟨#[]⟩,bU cq 0,bU cq 0,bY ⟨#[]⟩]),4,48):=dC
def XG:xm prog 24 52 4 48:=⟨underlying24,_,ai4,ae,cN⟩
section
attribute[local irreducible]wpList Code.wp Calls Oper.wp wpAnyH
def SW(K D G M:Nat)(g:iV)(s:Pl)(ht:fi g.b.t)(w:cS)(h:tY w K G g D M s):
 CP_ 12 #[bW (cu ⟨K,0,cw⟩)] w λe w'=>∃r,e=cj r/\w'.ownsRow w.h.s 52 4 r (Cs (g.gt s)).n (N8 (Cs (g.gt s)))/\dS w w':=by
 have H0:=cz h;have S:=qP w;have C1:=cz λW(hb:dS w W)=>lS G D M g s ht.fit W (h.Hz.cP hb);have Q:=cz ht;obtain⟨T,U⟩:=sV (Cs (g.gt s));rw[U.o];clear h ht;go_enter func12,ntmps12;go_upto_region 4 with(first|refine zw (v:=dF G 0) (cL.cell (cL.cP H0.o.row S.b) (i:=0) cN) ?_|(refine(C1.o _ S.b).mono ?_;rintro e W ⟨B,rfl,⟨⟨cn,a,l,d⟩,rfl,hc,ho⟩,hb⟩;have HC:=cz hc;replace S:=S.Vy hb ho;clear hb hc;rw[show cM 2 (dO ⟨cn,a,l,d⟩)=#[bU ct cn,bX l a.n d] from ae];have Y:=λW=>Qu cn l a.n d W));have a1:Hid (0<a.n->∃b o,l=s_ b o):=cz λhn=>by obtain⟨Z,cap,t,-,h3⟩:=dQ S.x.2.1.1;simp only[dY.sv,lX] at t;obtain⟨b,o,h4⟩:=h3 hn;exact⟨b,o,t.1.trans h4⟩
 have f:g.b.t.cU=ez a:=by rw[<-HC.o];rfl
 have HL:=cz (show T=(ez a).map (zu (ez a)) from by rw[<-U.o];unfold Cs;rw[show(g.gt s).b=g.b.t from ae,f]);have y:a.n<=1000000:=by have t:=Q.o.fit.1;rw[f,iv] at t;exact t
 have u:rC a:=by have t:=Q.o.fit.2;rw[f] at t;exact t
 have C2:=cz λid W R=>ad5 a (bX l a.n d) id y u W R;have C3:=cz λid W R=>MF a (bX l a.n d) id y W R;replace S:=S.Jn 52 4 ae ae;change St w cw [] [] _ (λB w=>True/\rU (bX l a.n d) a B w) W at S;have HS:=cz S;clear u f S Y;go_loopw [4,16] (λlv kv wr=>∃(k:Nat)(Z:Option Addr)(c:Nat),k<=a.n/\kv=bU cq k/\lv=bX Z k c/\Hid (∃L,St w cw [] L [⟨52,4,bX Z k c,k,N8 (((ez a).take k).map (zu (ez a)))⟩] (λB w=>True/\rU (bX l a.n d) a B w) wr)) (λ_ kv _=>a.n-(intOf kv).m);exact⟨0,cw,0,cN,ae,ae,cz ⟨_,HS.o⟩⟩;clear HS;obtain⟨k,Z,c,hk,rfl,rfl,hS⟩:=hrel;obtain⟨L,S⟩:=hS.o;clear hS;by_cases p:k<a.n
 . obtain⟨C,J,rfl⟩:=a1.o cN;obtain⟨x,hx⟩:=dG (a[k]);have I:a[k]?=cu x:=by rw[jG p,hx]
   have N:=cz I;have n:=cz p;have HT:=cz (show((ez a).take (k+1)).map (zu (ez a))=((ez a).take k).map (zu (ez a))++[zu (ez a) x.todu] from by
    rw[yl (by rw[iv];exact p),nM];congr 1;have V:(ez a)[k]?=cu x.todu:=by rw[mZ,I];rfl
    rw[jG (by rw[iv];exact p)] at V;rw[wW V];rfl)
   obtain⟨O,F⟩:=dG (AW (ez a) x.id);have C4:=cz (C2.o x.id);rw[F] at C4;obtain⟨og,H⟩:=dG ((uZ (ez a) x.id).2);have C5:=cz (C3.o x.id);rw[H] at C5;obtain⟨q,m⟩:=dG (AW (ez a) og);have C6:=cz (C2.o og);rw[m] at C6;obtain⟨sp,z⟩:=sV x.dz;have HI:=cz (show zu (ez a) x.todu=(O,(x.blocks,(x.df.n,if sp=cx then tp else q))) from by
    unfold zu;rw[show x.todu.id=x.id from ae,F,H,m,<-z.o])
   obtain⟨A,HA⟩:=yw (cM 4 (FN (O,(x.blocks,(x.df.n,tp)))));obtain⟨A2,a3⟩:=yw (cM 4 (FN (O,(x.blocks,(x.df.n,q)))));clear hx I F H m;go_upto_region 7 with(fail);refine MP S dC [] (by intro r hr;cases hr) λW S=>?_;refine dh 0 _ ?_;refine dh 1 _ ?_;refine dh 2 (dF C (J+k*11)) ?_;refine dh 3 (dF C (J+k*11)) ?_;refine ij 4 (bU ct x.id) ae (gW (λw h=>by obtain⟨_,_,S,_⟩:=h;exact(S.x.2.sl.at N.o).c0) ae gi) ?_;refine dh 6 _ ?_;refine dh 7 (dF C (J+k*11)) ?_;refine dh 8 (dF C (J+k*11+6)) ?_;refine ij 9 (bU cq x.blocks) ae (gW (λw h=>by obtain⟨_,_,S,_⟩:=h;exact(S.x.2.sl.at N.o).c6) ae Dy) ?_;refine dh 10 _ ?_;refine dh 11 (dF C (J+k*11)) ?_;refine dh 12 (dF C (J+k*11+10)) ?_;refine ij 13 (bX x.ee x.df.n x.cap) ae (gW (λw h=>by obtain⟨_,_,S,_⟩:=h;exact(S.x.2.sl.at N.o).c10) ae ox) ?_;refine dh 14 (bU cq x.df.n) ?_;repeat' first|refine Th ?_|refine nv_ 15 (bV A) ae (yU ae amY) ?_|refine Bt 5 16 (λK E=>?_) λK E=>?_|refine qf 5 λK E=>?_|refine qf 17 λK E=>?_|refine qf 16 λK E=>?_|(refine gu S zeroValue52 afh ae λE7 W S=>?_;refine gy E ?_)|(go_wp2_with fail;refine je S (C4.o _ S.x.2.sl) λW S=>?_;refine gy E ?_)|(refine km S 0 ae ae ae HA.o akk (ET _) λW S=>?_;refine gy E ?_)
   all_goals(
    refine cz ?_;have a2:=λ(W:cS)(X:rU (bX (s_ C J) a.n d) a [] W)=>iC;clear a2;cases sp with
    |true=>
     go_wp2_with first|refine jF (v:=bZ cx) (by rw[(S.x.2.sl.at N.o).c2,z.o]) ae tX ?_|refine tE S 0 rfl 0 rfl rfl rfl rfl XG (ET _) CU xY λg9 c9 W S=>?_|refine fO ?_|refine fu λW S=>?_
     rw[<-N9] at S;go_roundw
     case rel=>
      have:=n.o;have hI:zu (ez a) x.todu=(O,(x.blocks,(x.df.n,tp))):=HI.o;rw[<-hI,<-HT.o] at S;exact ann
     case measure=>have:=n.o;simp[intOf];omega
    |false=>
     go_wp2_with first|refine jF (v:=bZ cy) (by rw[(S.x.2.sl.at N.o).c2,z.o]) ae tX ?_|refine zw (S.x.2.sl.at N.o).c0 ?_|refine je S (C5.o _ S.x.2.sl) λW S=>?_|refine je S (C6.o _ S.x.2.sl) λW S=>?_|refine xD S 0 rfl 3 (FN (O,(x.blocks,(x.df.n,q)))) (λj hj=>by rcases j with(_|_|_|_|j)<;>first|rfl|(exfalso;have hj:j+4<4:=hj;omega)) rh rfl rfl rfl Gr λW S=>?_|refine tE S 0 rfl 0 rfl rfl rfl rfl XG (ET _) CU xY λg9 c9 W S=>?_|refine fO ?_|refine fu λW S=>?_
     rw[<-N9] at S;go_roundw
     case rel=>
      have:=n.o;have hI:zu (ez a) x.todu=(O,(x.blocks,(x.df.n,q))):=HI.o;rw[<-hI,<-HT.o] at S;exact ann
     case measure=>have:=n.o;simp[intOf];omega)
 . obtain rfl:k=a.n:=cN;have HE:=cz (show((ez a).take a.n).map (zu (ez a))=T from by rw[<-iv,qp,HL.o]);go_wp2;go_ret;have V:=S.o0;rw[HE.o] at V;exact⟨_,ae,by rw[show T.n=a.n from by rw[HL.o,mQ,iv]];exact V,S.b⟩
end
structure Inv(x:GT):Prop where
 ql:Good x
 fit:Fit x
 al:x.s.dv.al
structure Far(x y:GT)(k:Nat):Prop where
 ub:y.ub=x.ub
 n:y.s.dv.n=x.s.dv.n
 st:y.s.cR<=x.s.cR+k
 nx:y.b.next<=x.b.next+k
 ring:∀a,a<4->y.s.dv.nw a=x.s.dv.nw a
theorem Far.trans{x y z:GT}{a b:Nat}(h:Far x y a)(g:Far y z b):Far x z (a+b):=
 ⟨g.ub.trans h.ub,g.n.trans h.n,by have:=h.st;have:=g.st;omega,by have:=h.nx;have:=g.nx;omega,λi c=>(g.ring i c).trans (h.ring i c)⟩
def ai6{x:GT}(G:Good x)(g:GW x y)(s:VU x y):Far x y 1:=
 ⟨s.ub,g.2.n,s.st.2,s.nx,λa b=>g.2.nw λh=>by have:=(G.map a).2.1 cN;omega⟩
def N'(k:Int)(i:Nat):Bool:=
 if i=0 then decide (0<=k/\k<=8) else if i=1 then decide (k=5) else if i=2 then decide ((0<=k/\k<=3)∨k=10∨k=12) else if i=3 then decide (k=1∨k=12) else decide (k=11)
def kindOk(k:Int):Bool:=decide (0<=k/\k<=12)
def SX(p:Nat->Bool):Nat->c7:=λi=>bZ (p i)
def YH(p:Nat->Bool):∀i,(SX p i).oneCell'=cx:=λ_=>ae
instance incb23c(p:Nat->Bool):OF (SX p):=⟨YH p⟩
def Zl:(#[bZ cy,bZ cy,bZ cy,bZ cy,bZ cy]:gJ)=cM 5 (SX λ_=>cy):=rfl
instance in9169f :ZR 272 5 (SX λ_=>cy):=⟨_,zeroValue272,Zl⟩
def akl:ky prog 272 5:=⟨⟨_,underlying272,ae⟩,dC⟩
instance in70151 :s7 272 5:=⟨akl⟩
def adT:prog.built 272 []=cu #[bZ cy,bZ cy,bZ cy,bZ cy,bZ cy]:=dC
structure Z7 where
 kind:Int
 name:fM
 toN:fM
 n:Int
 data:cV
 eS:List Bool
structure JK extends Z7 where
 da:Option Addr
 dc:Nat
 ka:Option Addr
 kc:Nat
def opF(o:JK):Nat->c7:=λi=>if i=0 then bU cq o.kind else if i=1 then bY o.name else if i=2 then bY o.toN else if i=3 then bU cq o.n else if i=4 then bX o.da o.data.n o.dc else bX o.ka o.eS.n o.kc
def ahq(o:JK):∀i,(opF o i).oneCell'=cx:=by intro i;unfold opF;split;rfl;split;rfl;split;rfl;split;rfl;split<;>rfl
instance inea6f6(o:JK):OF (opF o):=⟨ahq o⟩
def Ef(w:cS)(b o:Nat)(x:JK):Prop:=∀k,k<6->w.cell? ⟨b,o+k,cw⟩=cu (opF x k)
section
variable {o:Nat}{x:JK}
def Ef.c0(h:Ef w b o x):w.cell? ⟨b,o,cw⟩=cu (.int cq x.kind):=h 0 cN
end
def afj(o:Z7):Bool:=
 kindOk o.kind&& ((N' o.kind 0||decide (o.name=tp))&& (decide (o.name.s<=60)&& ((N' o.kind 1||decide (o.toN=tp))&& (decide (o.toN.s<=60)&& ((N' o.kind 2||decide (o.n=0))&& (decide (-1<=o.n)&& (decide (o.n<=65534)&& ((N' o.kind 3||decide (o.data.n=0))&& (decide (o.data.n<=129)&& ((N' o.kind 4||decide (o.eS.n=0))&&decide (o.eS.n<=64)))))))))))
def akm:lD prog 39:=⟨⟨_,underlying39,ae⟩,dC⟩
instance in197e3 :rk 39:=⟨akm⟩
structure alX(o:Z7):Prop where
 kind:0<=o.kind/\o.kind<=12
 name:o.name.s<=60
 toN:o.toN.s<=60
 n: -1<=o.n/\o.n<=65534
 data:o.data.n<=129
 eS:o.eS.n<=64
structure akn where
 acg:Int
 ops:List Z7
structure alG(s:akn):Prop where
 acg:64<=s.acg/\s.acg<=1024
 qD:s.ops.n<=200
 op:∀o∈s.ops,afj o=cx
def opE(x:JK):List c7:=(cM 6 (opF x)).t
theorem SY(x:JK):(opE x).n=6:=by rfl
def opC(l:List JK):List c7:=l.flatMap opE
structure V0 where
 acg:Int
 l:List JK
 ee:Option Addr
 cap:Nat
def V0.sv(s:V0):c7:=bX s.ee s.l.n s.cap
def afk(s:V0):Nat->c7:=λi=>if i=0 then bU cq s.acg else s.sv
def afl(s:V0):∀i,(afk s i).oneCell'=cx:=by intro i;unfold afk;split<;>rfl
instance in9322e(s:V0):OF (afk s):=⟨afl s⟩
def Z8:V0:=⟨0,[],cw,0⟩
def afm:JK:=⟨⟨0,tp,tp,0,[],[]⟩,cw,0,cw,0⟩
def adN:(#[bU cq 0,bX cw 0 0]:gJ)=cM 2 (afk Z8):=rfl
instance in1dcef :ZR 32 2 (afk Z8):=⟨_,zeroValue32,adN⟩
def adO:(#[bU cq 0,bY ⟨#[]⟩,bY ⟨#[]⟩,bU cq 0,bX cw 0 0,bX cw 0 0]:gJ)=cM 6 (opF afm):=rfl
instance in80665 :ZR 41 6 (opF afm):=⟨_,zeroValue41,adO⟩
def alc:ky prog 32 2:=⟨⟨_,underlying32,ae⟩,dC⟩
instance inf2ec7 :s7 32 2:=⟨alc⟩
def ald:ky prog 41 6:=⟨⟨_,underlying41,ae⟩,dC⟩
instance ina6a03 :s7 41 6:=⟨ald⟩
def agz:prog.built 32 []=cu #[bU cq 0,bX cw 0 0]:=dC
def agA:prog.built 41 []=cu #[bU cq 0,bY ⟨#[]⟩,bY ⟨#[]⟩,bU cq 0,bX cw 0 0,bX cw 0 0]:=dC
def ako:lD prog 30:=⟨⟨_,underlying30,ae⟩,dC⟩
instance in66103 :rk 30:=⟨ako⟩
def ai7:(prog.info? 41).map (λi=>(i.zero,i.s,i.bytes))=cu (cu (bV #[bU cq 0,bY ⟨#[]⟩,bY ⟨#[]⟩,bU cq 0,bX cw 0 0,bX cw 0 0]),6,96):=dC
def aip:xm prog 30 41 6 96:=⟨underlying30,_,ai7,ae,cN⟩
def ale:lD prog 5:=⟨⟨_,yN,ae⟩,dC⟩
instance in6ae8b :rk 5:=⟨ale⟩
def akp:(prog.info? 4).map (λi=>(i.zero,i.s,i.bytes))=cu (cu (.bool cy),1,1):=dC
def afn:xm prog 39 4 1 1:=⟨underlying39,_,akp,ae,cN⟩
abbrev Wq:=Dv ⊕ GT
def sh(x:GT)(o:Z7):GT×(cV×Int):=
 let put (r:GT×Int):GT×(cV×Int):=(r.1,(fN,r.2))
 if o.kind=0 then put (dX x (my o.name o.n))
 else if o.kind=1 then put (dX x (mM o.name o.n o.data))
 else if o.kind=2 then put (dX x (rH o.name o.n))
 else if o.kind=3 then vr o.name o.n x
 else if o.kind=4 then put (dX x (vl o.name))
 else if o.kind=5 then put (dX x (qL o.name o.toN))
 else if o.kind=6 then put (dX x (lY o.name))
 else if o.kind=7 then put (dX x (uC o.name))
 else if o.kind=8 then put (dX x (lf o.name))
 else if o.kind=9 then put (dX x gD)
 else(x,(fN,0))
def afo:Wq->Dv
 | .inl d=>d
 | .inr x=>x.s.dv
def Lb(K D:Nat)(x:GT):cV->cS->Prop:=λB w=>∃G g M,zp K G g D M x.s B w/\g.gt x.s=x/\fQ x.dI
def tQ(K D:Nat)(x:GT):lN (cu D) (Lb K D x):=
 ⟨λ⟨G,g,M,h,e⟩ b=>⟨G,g,M,(kg K G g D M x.s).cP h b,e⟩,λ⟨G,g,M,h,e⟩ b=>⟨G,g,M,(kg K G g D M x.s).add h b,e⟩,λ⟨G,g,M,h,e⟩ b=>⟨G,g,M,(kg K G g D M x.s).mono h b,e⟩,
  λ⟨G,g,M,h,e⟩ b c t u v=>⟨G,g,M,(kg K G g D M x.s).but h b c t u v,e⟩,λ⟨G,g,M,h,_⟩ f=>(kg K G g D M x.s).dev h f⟩
theorem Lb.at{x:GT}(h:Lb K D x B w):fJ w K D x:=by obtain⟨G,g,M,a,e⟩:=h;exact⟨G,g,M,a.at,e⟩
def fJ.xB{x:GT}(h:fJ w K D x)(c:∀b∈B,iy w b≠cu 109/\iy w b≠cu 106):Lb K D x B w:=by obtain⟨G,g,M,a,e⟩:=h;exact⟨G,g,M,⟨a.Hz.xB c,a.row⟩,e⟩
theorem fJ.x{x:GT}(h:fJ w K D x):Lb K D x [] w:=h.xB λ_ h=>absurd h jL
def fJ.dev{x:GT}(h:fJ w K D x):iQ w D x.s.dv:=by obtain⟨G,g,M,a,e⟩:=h;exact a.Hz.kB.dev
def akr(D:Nat)(d:Dv):cV->cS->Prop:=λ_ w=>iQ w D d
def stX(D:Nat)(s:Wq)(v:c7):cV->cS->Prop:=λB w=>match s with
 | .inl d=>v=bW cw/\akr D d B w
 | .inr x=>∃K,v=bW (cu ⟨K,0,cw⟩)/\Lb K D x B w
def JL(w:cS)(D:Nat)(s:Wq)(v:c7):Prop:=match s with
 | .inl d=>v=bW cw/\iQ w D d
 | .inr x=>∃K,v=bW (cu ⟨K,0,cw⟩)/\fJ w K D x
def lN.imp{p:Prop}(h:lN d X):lN d (λB w=>p/\X B w):=
 ⟨λa b=>⟨a.1,h.cP a.2 b⟩,λa b=>⟨a.1,h.add a.2 b⟩,λa b=>⟨a.1,h.mono a.2 b⟩,λa b c t u f=>⟨a.1,h.but a.2 b c t u f⟩,λa f=>h.dev a.2 f⟩
def ahr(D:Nat)(s:Wq)(v:c7):lN (cu D) (stX D s v):=by cases s with|inl d=>exact(show lN (cu D) (akr D d) from gj D d).imp|inr x=>exact⟨λ⟨K,e,h⟩ b=>⟨K,e,(tQ K D x).cP h b⟩,λ⟨K,e,h⟩ b=>⟨K,e,(tQ K D x).add h b⟩,λ⟨K,e,h⟩ b=>⟨K,e,(tQ K D x).mono h b⟩,λ⟨K,e,h⟩ b c t u f=>⟨K,e,(tQ K D x).but h b c t u f⟩,λ⟨K,_,h⟩ f=>(tQ K D x).dev h f⟩
def JL.xB{s:Wq}(h:JL w D s v)(a:∀b∈B,iy w b≠cu 109/\iy w b≠cu 106):stX D s v B w:=by cases s with|inl d=>exact h|inr x=>obtain⟨K,e,h⟩:=h;exact⟨K,e,h.xB a⟩
def JL.dev{s:Wq}(h:JL w D s v):iQ w D (afo s):=by cases s with|inl d=>exact h.2|inr x=>obtain⟨K,e,h⟩:=h;exact h.dev
section
theorem St.aks(S:St w0 (cu D) l L O X w){s:Wq}(h:JL w' D s v)(f:Fr (cu D) l2 w w')(d:∀k∈l2,k∈l∨w0.h.s<=k)(i:∀r∈L,r.t≠109/\r.t≠106)(j:∀o∈O,o.e≠109/\o.e≠106):St w0 (cu D) l L O (stX D s v) w':=by have a:=S.Nn f (λ_ e=>e) d (gj D (afo s)) h.dev;refine a.Vx (ahr D s v) (h.xB λb c=>?_);rcases iu.1 c with⟨r,g,rfl⟩|⟨o,ho,e⟩;rw[cL.ty (a.row r g).1];grind;rw[uR (a.own o ho).1 e];grind
theorem St.Au(S:St w0 (cu D) l L O X w){x:GT}(h:fJ w' K D x)(f:Fr (cu D) l2 w w')(d:∀k∈l2,k∈l∨w0.h.s<=k)(b:∀r∈L,r.t≠109/\r.t≠106)(c:∀o∈O,o.e≠109/\o.e≠106):St w0 (cu D) l L O (Lb K D x) w':=
 (St.aks (s:=.inr x) S ⟨K,ae,h⟩ f d b c).Vx (tQ K D x) (by
  have a:=(St.aks (s:=.inr x) S ⟨K,ae,h⟩ f d b c).x;obtain⟨g,e,a⟩:=a
  grind)
end
def afp(r:cV×Int):Nat->c7:=λi=>if i=0 then bU cq r.2 else di r.1 (i-1)
def afq(r:cV×Int):∀i,(afp r i).oneCell'=cx:=by intro i;unfold afp;split;rfl;rfl
instance inbc77e(r:cV×Int):OF (afp r):=⟨afq r⟩
def alh:ky prog 38 129:=⟨⟨_,underlying38,ae⟩,dC⟩
instance in91779 :s7 38 129:=⟨alh⟩
def adP:zeroCells38=cM 129 (afp (fN,0)):=dC
instance ind4ac6 :ZR 38 129 (afp (fN,0)):=⟨_,zeroValue38,adP⟩
def Z9{d:Dv}(h:iQ w D d):∃l,uS w D d l:=by obtain⟨a,e,c,pv,b⟩:=h;exact⟨_,a,e,c,pv,b,ae⟩
def V1(D:Nat)(d:Dv)(n:Int)(c:eT n)(m:cV)(w:cS)(a:iQ w D d):
 CP_ 21 #[bW (cu ⟨D,0,cw⟩),bU cq n] w λe w'=>e=cj (cg #[])/\iQ w' D (xU d n)/\Fr (cu D) m w w':=by obtain⟨l,b⟩:=Z9 a;exact(adm D d l n c w b).mono λe w' ⟨he,hs⟩=>⟨he,hs.shut,hs.fr b m⟩
def KK(D:Nat)(d:Dv)(ho:d.ops<=1000000000)(v:c7)(eS:List Bool)(m:cV)(w:cS)(a:iQ w D d)(c:Mc w v eS):
 CP_ 16 #[bW (cu ⟨D,0,cw⟩),v] w λe w'=>e=cj (cg #[])/\iQ w' D (lU d eS)/\Fr (cu D) m w w':=by obtain⟨l,b⟩:=Z9 a;exact(adp D d l ho v eS w b c).mono λe w' ⟨he,hs⟩=>⟨he,hs.shut,hs.fr b m⟩
theorem fJ.asked{w w':cS}{K D:Nat}{x:GT}{d:Dv}(h:fJ w K D x)(c:iQ w' D d)(f:Fr (cu D) [] w w'):fJ w' K D (asked x d):=by
 obtain⟨G,g,M,b,e,i⟩:=h;have a:=b.Hz;refine⟨G,g,M,⟨cL.fr b.row f ax (.inr eQ),⟨cL.fr a.row f ax (.inr eQ),⟨cL.fr a.kB.row f ax (.inr eQ),c,a.kB.map.fr f eQ,a.kB.ok⟩,
  ⟨dg.fr a.wZ.1 f ax ae,λx j=>dg.fr (a.wZ.2 x j) f ax ae⟩,dg.fr (show dg w 106 3 g.hv g.dI.n (iZ g.dI) from a.dI) f ax ae⟩⟩,?_,i⟩
 rw[<-e];rfl
def agB:prog.built 38 []=cu zeroCells38:=dC
structure ali(s:Wq):Prop where
 ops:(afo s).ops<=990000000
 ok:∀x,s=.inr x->Gy x
def kA(n:Nat):Dv:=⟨n,λ_=>fN,λ_=>fN,[],0,-1,cy⟩
def V2(n:Nat):qE (kA n):=⟨λ_=>xj,λ_=>xj,λp h=>absurd h jL,eN _,aml,⟨aml,aml⟩⟩
structure TrT where
 rs:List (cV×Int)
 ls:List Ee
 room:Nat
 down:Bool
theorem afr{x:GT}(h:tj x N)(b:qE x.s.dv)(c:gU x.s.cR)(o:Z7):tj (sh x o).1 (N+20000):=by have a:=fun {k:GT->GT×Int} (d:tj (k x).1 (N+9))=>IG h (k:=k) (d.le cN);unfold sh;split;exact a ((Qv h _ _).le cN);split;exact a ((VG h b c _ _ _).le cN);split;exact a ((ahf h b c _ _).le cN);split;exact(aeR h _ _).le cN;split;exact a ((ahc h _).le cN);split;exact a ((aeP h _ _).le cN);split;exact a ((Yq h _).le cN);split;grind[ahd];split;grind[Yr];split;grind[IG,VH];exact h.le cN
def Oa{d:Dv}(h:qE d)(eS:List Bool):lI (lU d eS).nw:=λi=>T5 h.ps 0 h.st i
structure TrV where
 rv:c7
 rs:List (cV×Int)
 lv:c7
 ls:List Ee
 room:Nat
 down:Bool
def trF(x:TrV):Nat->c7:=λi=>if i=0 then x.rv else if i=1 then x.lv else if i=2 then bU cq x.room else bZ x.down
def afs:TrV:=⟨bX cw 0 0,[],bX cw 0 0,[],0,cy⟩
def adQ:(#[bX cw 0 0,bX cw 0 0,bU cq 0,bZ cy]:gJ)=cM 4 (trF afs):=rfl
instance in70aac :ZR 26 4 (trF afs):=⟨_,zeroValue26,adQ⟩
def alj:ky prog 26 4:=⟨⟨_,underlying26,ae⟩,dC⟩
instance inbe5e8 :s7 26 4:=⟨alj⟩
def agC:prog.built 26 []=cu #[bX cw 0 0,bX cw 0 0,bU cq 0,bZ cy]:=dC
def aku:lD prog 23:=⟨⟨_,underlying23,ae⟩,dC⟩
instance in59288 :rk 23:=⟨aku⟩
def akv:lD prog 24:=⟨⟨_,underlying24,ae⟩,dC⟩
instance in22a2e :rk 24:=⟨akv⟩
def ai8:(prog.info? 38).map (λi=>(i.zero,i.s,i.bytes))=cu (cu (bV zeroCells38),129,136):=dC
def aiq:xm prog 23 38 129 136:=⟨underlying23,_,ai8,ae,cN⟩
theorem aft{c b:Nat}(h:zK w D (yH n c b) (λ_=>fN) (λ_=>fN)):iQ w D (kA n)/\∀k∈oT w D,k=D∨k=c∨k=b:=by have d:od w D ((kA n).head c b (bX cw 0 0)) (kA n).st (kA n).nw (kA n).ps:=⟨h,iD _ _ _ _,λp e=>by cases e⟩;refine⟨⟨V2 n,c,b,_,d⟩,λk a=>?_⟩;rw[d.oT] at a;unfold fV at a;simp only[iX] at a;rcases a with h|h|h|h;omega;exact .inr (.inl h);exact .inr (.inr h);exact absurd h (by show k∉([]:cV);grind)
structure Ok(x:GT)(k:Nat):Prop where
 inv:Inv x
 ring:Ring x.s.dv.nw x.ub
 st:x.s.cR<=k
 nx:x.b.next<=k
 tx:x.ub.kJ<=k
def Ok.far{x:GT}{j:Nat}(h:Ok x k)(I:Inv y)(f:Far x y j):Ok y (k+j):=by refine⟨I,?_,by have:=f.st;have:=h.st;omega,by have:=f.nx;have:=h.nx;omega,by rw[f.ub];have:=h.tx;omega⟩;rw[f.ub];exact⟨(f.ring _ (mod_lt x.ub.kJ (show 4>0 by decide))).trans h.ring.here,h.ring.right,h.ring.parts,λi b a v c=>by rw[f.ring i b] at c;exact h.ring.iW i b a v c⟩
theorem Laid.parts{D:Nat->cV}(L:Laid D n st q text tk dI ats)(g:n<=1024)(d:gU st):dD q:=by obtain⟨⟨h,i,l,m,j,e,f,_,_,_,_,_,c,hc,lt,_,_,_,b,_⟩,_,a⟩:=L;have:=a q (by rw[b];simp);refine⟨cN,by rw[this.1];exact d,?_⟩;rw[hc,c];grind[Du,ai1,pD]
theorem afu{x:GT}(h:Ok x k)(p:k<=281474976710600)(d:lI x.s.dv.nw):(dX x gD).2=0/\Ok (dX x gD).1 (k+1)/\C' x (dX x gD).1:=by
 have I:=h.inv;have m:=h.st;have n:=h.nx;have o:=h.tx;have g:=Z4 I.ql I.fit d I.al cN cN (λt e=>r5 e) cN;have e:dX x gD=((gD x).1,0):=by unfold dX r9;rw[cX (by rw[I.al.1];simp),cX cN]
 have D:=Ec I.ql d bG cN (λt e=>r5 e) jH;rw[<-g.2.2] at D;rw[e];refine⟨ae,?_,D⟩;have l:iR x.ub.kJ=x.ub.kJ+1:=qU cN;have q:iR x.s.cR=x.s.cR+1:=qU cN;refine⟨⟨D.ql,D.fit I.ql I.fit,g.2.1⟩,?_,by show(gD x).1.s.cR<=_;rw[D.cR.1];omega,by show(gD x).1.b.next<=_;rw[D.b];omega,by show(gD x).1.ub.kJ<=_;rw[D.ub.1];omega⟩;obtain⟨text,ats,_,L,_⟩:=D.laid;refine⟨D.slot,D.ub.2.2.2.2,L.parts I.ql.n.2 bG,λi f a v b j=>?_⟩;show v.kJ<(gD x).1.ub.kJ;rw[D.ub.1,l];rw[D.ring i f a] at b;by_cases c:i=x.ub.kJ%4
 rw[c,h.ring.here,ES h.ring.right h.ring.parts] at b;grind;have:=h.ring.iW i f c v b j;omega
theorem aci:kf fN=cw:=by rfl
theorem Ob(h:64<=n/\n<=1024):Good (gM (kA n)):=by
 have b:∀a,¬Re (pt (gM (kA n)).s.dv.nw) (·∈(gM (kA n)).b.cU) a:=by grind[Re,gM]
 have mk:sU n (pR (n:Nat)):=λa=>by grind[pR]
 refine⟨.nil,gG _,⟨bA,bg,bg,bg,bA,bg,bA,bg⟩,⟨bA,bg,bg,(by intro s k h;cases h),anf,(by intro s t k h;cases h),bg,anf,anf,bg⟩,bg,mk,h,λa h=>absurd h (b a),λa h=>?_,(by intro q h;cases h),.nil,bA,eN _⟩;have h:pR (n:Nat) a=2:=h;grind[pR]
theorem Oc(h:64<=n/\n<=400):(jJ (kA n)).2=0/\Ok (jJ (kA n)).1 2/\C' (gM (kA n)) (jJ (kA n)).1/\Fit (gM (kA n)):=by
 have G:=Ob (n:=n) cN;have e:jJ (kA n)=iS (gM (kA n)):=by unfold jJ;rw[cX aml]
 have b:fI (gM (kA n)).s.mp=n-4:=by
  have:=G.map.all G.n.2 (by have:=G.n.1;omega);have r:cn (λa=>(gM (kA n)).s.mp a=2) 1024=0:=by rw[VQ (q:=λ_=>False) λa _=>by show pR (n:Nat) a=2↔_;grind[pR],IS]
  have s:cn (λa=>(gM (kA n)).s.mp a=3) 1024=0:=by rw[VQ (q:=λ_=>False) λa _=>by show pR (n:Nat) a=3↔_;grind[pR],IS]
  have u:(gM (kA n)).s.dv.n=n:=rfl;omega
 have F:Fit (gM (kA n)):=by
  unfold Fit;rw[z8,b];have k:(gM (kA n)).b=⟨1,[]⟩:=rfl;have l:(gM (kA n)).dI=[]:=rfl;have o:(gM (kA n)).s.dv.n=n:=rfl;rw[k,l,o];have d:∀m:Fin 401,64<=m.val->0<nq ⟨1,[]⟩ (m.val:Int)/\2*nq ⟨1,[]⟩ (m.val:Int)<=m.val-4:=by decide+kernel
  have:=d ⟨n,cN⟩ h.1;grind
 have g:lI (gM (kA n)).s.dv.nw:=(V2 n).nw;have f:=Z4 G F g ⟨ae,ae⟩ bA (by show(0:Nat)<=_;decide) (λt e=>r5 e) bA;have D:=Ec G g (by show(1:Nat)<_;decide) bA (λt e=>r5 e) jH;rw[e,<-f.2.2] at*;refine⟨f.1,?_,D,F⟩;refine⟨⟨D.ql,D.fit G F,f.2.1⟩,?_,by rw[D.cR.1];simp[iR,gM],by rw[D.b];grind[gM],by rw[D.ub.1];show iR 0<=2;decide⟩;obtain⟨text,ats,_,L,_⟩:=D.laid;refine⟨D.slot,D.ub.2.2.2.2,L.parts G.n.2 (by show(1:Nat)<_;decide),λi p c v j w=>?_⟩;rw[D.ring i p c] at j;have:kf fN=cu v:=j;rw[aci] at this;cases this
def afv{A:Nat->Prop}(s:Pl)(cO:cQ)(i:Int):PW A s (qF s cO i).1/\(qF s cO i).1.mp=s.mp:=by have w:=IJ (A:=A) s cO i.m;have g:=NI (A:=A) (fB s cO i.m).1 (fB s cO i.m).2.1.block;unfold qF;split;exact⟨.refl _,ae⟩;split;exact w;exact⟨w.1.trans g.1,g.2.trans w.2⟩
theorem JM(cT:fM)(i:Int)(x:GT):∃d,(vr cT i x).1=asked x d/\∀A,Wr A x.s.dv d:=by
 unfold vr;split;exact⟨x.s.dv,ae,λ_=>.refl _⟩;unfold IC;split;exact⟨x.s.dv,ae,λ_=>.refl _⟩;have g:=λA=>afv (A:=A) x.s (tH x.b cT i).1.cO i;have e:(qF x.s (tH x.b cT i).1.cO i).1= {x.s with dv:=(qF x.s (tH x.b cT i).1.cO i).1.dv}:=by have h:=g λ_=>False;have f:=h.1.st;have j:=h.1.ba;have k:=h.2;generalize (qF x.s (tH x.b cT i).1.cO i).1=t at*;obtain⟨a,b,c,d⟩:=t;grind
 refine⟨_,?_,λA=>(g A).1.wr⟩;grind[Ln,asked]
theorem Fit.dev{x:GT}(F:Fit x){d:Dv}(h:d.n=x.s.dv.n):Fit (asked x d):=by grind[Fit,z8,asked]
theorem YI{x:GT}(G:Good x)(F:Fit x)(c:lI x.s.dv.nw)(f:gU x.s.cR)(o:Z7)(b:∀y∈o.data,y<256)(a:o.kind≠9):GW x (sh x o).1/\Fit (sh x o).1/\VU x (sh x o).1:=by unfold sh;simp only;split;grind[IK,VS,VV];split;grind[KG,Yy,YB];split;grind[NP,ab6,acb];split;obtain⟨d,e,w⟩:=JM o.name o.n x;rw[e];exact⟨⟨G.dev (w _),w _⟩,F.dev (w λ_=>False).n,ae,ae,ae,⟨eN _,yr _⟩,yr _⟩;split;grind[NN,ab5,ab9];split;grind[KF,Yx,YA];split;grind[FK,SR,SU];split;grind[NO,ab8,aca];split;grind[FJ,SQ,SV];exact⟨⟨G,.refl _⟩,F,.refl x⟩
theorem V3(x:GT){o:Z7}(h:o.kind=9):(sh x o).1=(dX x gD).1:=by grind[sh]
abbrev jO:=Nat×(cQ×Bool)
def l6(b:Bool)(a:List jO×Bool)(q:cQ):List jO×Bool:=
 match a.1.find? λm=>decide (m.1=q.1) with
 |none=>(a.1++[(q.1,(q,b))],a.2)
 |some m=>if m.2.1=q then a else(a.1,cx)
def pQ(b:Bool)(l:List cQ)(a:List jO×Bool):List jO×Bool:=l.foldl (l6 b) a
def tL:List du->Pl->List jO×Bool->Pl×((List jO×Bool)×Int)
 | [],s,a=>(s,(a,0))
 |t::ts,s,a=>if(fR s t.cO 0).2.2=42 then((fR s t.cO 0).1,(a,42)) else if(fR s t.cO 0).2.2≠0 then((fR s t.cO 0).1,(a,91)) else
  tL ts (fR s t.cO 0).1 (pQ cy (fR s t.cO 0).2.1 a)
structure GJ where
 wP:List (Int×Int)
 taken:List (Int×Int)
 Z':Bool
 cU:Nat
 blocks:Nat
def zy:GJ:=⟨[],[],cy,0,0⟩
noncomputable def aaa(r:Pl×(ej×(List (Int×Int)×(List cQ×Int)))):Dv×(GJ×Int):=
 if r.2.2.2.2≠0 then(r.1.dv,(zy,r.2.2.2.2)) else
 let w:=tL r.2.1.cU r.1 (pQ cx r.2.2.2.1 ([],cy))
 if w.2.2≠0 then(w.1.dv,(zy,w.2.2)) else
 (w.1.dv,(⟨iE (oG (w.2.1.1.map λm=>((m.1:Nat):Int))),r.2.2.1,w.2.1.2,r.2.1.cU.n,(w.2.1.1.filter λm=>!m.2.2).n⟩,0))
noncomputable def QL(d:Dv)(o:Option qZ):Dv×(GJ×Int):=
 if o.isSome=cy then(d,(zy,91)) else
 if(o.getD lR).gx≠d.n then(d,(zy,91)) else
 if(o.getD lR).len≠40 then(d,(zy,91)) else
 aaa (jX ⟨d,pR d.n,0,0⟩ (o.getD lR).iG)
noncomputable def vG(d:Dv):Dv×(GJ×Int):=if d.df=cx then(d,(zy,42)) else QL (eZ d).1 (eZ d).2
def Ct(r:GJ):Bool:=decide (r.wP=r.taken)&& !r.Z'
structure Marks(S:cQ->Prop)(a:List jO×Bool):Prop where
 no:a.2=cy
 in_:∀m∈a.1,m.2.1.1=m.1/\S m.2.1
theorem acj(hS:∀p q,S p->S q->p.1=q.1->p=q){a:List jO×Bool}(h:Marks S a)(b:Bool)(i:S q):Marks S (l6 b a q)/\(∀n,n∈(l6 b a q).1.map Prod.fst↔n∈a.1.map Prod.fst∨n=q.1):=by unfold l6;cases d:a.1.find? λm=>decide (m.1=q.1) with|none=>(refine⟨⟨h.no,λm c=>?_⟩,λn=>by simp⟩;rcases gH.1 c with c|c;exact h.in_ m c;grind)|some m=>have f:=find?_some d;have e:=QU d;have g:=h.in_ m e;grind
theorem JN{S:cQ->Prop}(hS:∀p q,S p->S q->p.1=q.1->p=q)(b:Bool):∀(l:List cQ)(a:List jO×Bool),Marks S a->(∀q∈l,S q)->Marks S (pQ b l a)/\∀n,n∈(pQ b l a).1.map Prod.fst↔n∈a.1.map Prod.fst∨∃q∈l,q.1=n
 | [],a,h,_=>⟨h,λn=>by simp[pQ]⟩
 |q::l,a,h,g=>by
  have s:=acj hS h b (g q nB);have k:=JN hS b l (l6 b a q) s.1 λp c=>g p (kT _ c);refine⟨k.1,λn=>?_⟩;show n∈(pQ b l (l6 b a q)).1.map Prod.fst↔_
  grind
theorem QM(s:Pl)(q:cQ):(dw s q).1.dv.df=s.dv.df:=by grind[dw,gz,iq,fm]
theorem afw(s:Pl)(cO:cQ)(st:Nat):(fR s cO st).1.dv.df=s.dv.df:=by
 have a:∀(l:List cQ)(x:Pl×(List cQ×Int)),(uj st l x).1.dv.df=x.1.dv.df:=by intro l;induction l<;>grind[uj,jU,QM]
 grind[fR,QM]
theorem QN{D:Nat->cV}{n:Nat}{S:cQ->Prop}(hS:∀p q,S p->S q->p.1=q.1->p=q):∀(l:List du)(s:Pl)(a:List jO×Bool),s.dv.df=cy->s.dv.nw=D->s.dv.n=n->(∀t∈l,Rd D n t.cO/\∀k,pt D t.cO k≠cY->0<(pt D t.cO k).2.1/\S (pt D t.cO k))->Marks S a->
 ∃v b,tL l s a=(v,(b,0))/\Marks S b/\PW (λ_=>False) s v/\∀x,x∈b.1.map Prod.fst↔x∈a.1.map Prod.fst∨∃t∈l,∃k,pt D t.cO k≠cY/\(pt D t.cO k).1=x
 | [],s,a,_,_,_,_,h=>⟨s,a,ae,h,.refl _,λx=>by simp⟩
 |t::l,s,a,hd,hw,hn,h,hm=>by
  have f:=h t nB;have c:=zr s t.cO 0;have w:=c.2.2.2 hd (by rw[hw,hn];exact f.1.1);have d:=c.2.2.1 w (by rw[hw];exact f.1.2.2);rw[hw] at d;have j:(fR s t.cO 0).1.dv.df=cy:=(afw s t.cO 0).trans hd;have i:=JN hS cy (fR s t.cO 0).2.1 a hm λq z=>by
   grind
  obtain⟨v,b,e,m,o,r⟩:=QN hS l (fR s t.cO 0).1 _ j ((c.1.nn).trans hw) ((c.1.wr.n).trans hn) (λu g=>h u (kT _ g)) i.1;refine⟨v,b,?_,m,c.1.trans o,λx=>?_⟩
  . unfold tL;grind
  . rw[r,i.2];simp only[iX];constructor
    . grind
    . rintro(h|⟨u,rfl|g,k,h0,h⟩)
      . grind
      . refine .inl (.inr ⟨_,(d _).2 ⟨k,Ae λy=>h0 ?_,ae,h0,(f.2 k h0).1⟩,h⟩);unfold pt;grind
      grind
section
open Go.ChangeMaps Go.MapKept Go.WideShapes
def Br(m:cQ×Bool):Nat->c7:=λi=>if i<3 then dE m.1 i else bZ m.2
def Aa(m:cQ×Bool):c7:=bV (cM 4 (Br m))
def V4(m:jO):c7×c7:=(bU cq m.1,Aa m.2)
def lW(w:cS)(b:Nat)(M:List jO):Prop:=∃c a,w.h[b]?=cu (.map c a)/\c.t.map (λe=>(e.key,e.val))=M.map V4/\c.t.map MapEntry.born=range a
def YJ(w:cS):lW (w.alloc (.map #[] 0)) w.h.s []:=⟨#[],0,(SZ w _).1,ae,ae⟩
theorem lW.lt{w:cS}{b:Nat}{M:List jO}(h:lW w b M):b<w.h.s:=by obtain⟨a,c,h,_⟩:=h;grind
theorem lW.same{M:List jO}(h:lW w b M)(e:w'.h[b]?=w.h[b]?):lW w' b M:=by grind[lW]
theorem Od(n:Nat):∀(a:List MapEntry)(M:List jO)(k:Nat),a.map (λe=>(e.key,e.val))=M.map V4->
 Instr.findNow (.int .i64) (.int .i64 n) a k=some (match M.findIdx? (λm=>decide (m.1=n)) with|none=>none|some i=>some (k+i,((M.find? λm=>decide (m.1=n)).map λm=>Aa m.2).getD undef))
 | [],[],_,_=>by rfl
 | [],_::_,_,h=>by simp at h
 |_::_,[],_,h=>by simp at h
 |e::a,m::M,k,h=>by
  simp only[yh,cons.injEq] at h;obtain⟨b,c⟩:=h;have d:e.key=.int .i64 m.1:=gQ Prod.fst b;have f:e.val=Aa m.2:=gQ Prod.snd b;have g:=Od n a M (k+1) c;unfold Instr.findNow;rw[d,f];simp only[Instr.sameNow,oQ]
  grind
def Oe(M:List jO)(n:Nat):c7:=cg #[Aa (((M.find? λm=>decide (m.1=n)).map Prod.snd).getD (cY,cy)),bZ (M.find? λm=>decide (m.1=n)).isSome]
theorem YK{M:List jO}(h:lW w b M)(n:Nat):(Instr.lookup 172 (.map (cu b)) (bU cq n) cx).run prog w=.ok (Oe M n) w:=by
 obtain⟨a,c,h,g,_⟩:=h;have f:=Od n a.t M 0 g;have e:(Instr.checkKey a.isEmpty 10000 3 (bU cq n)).run prog w=.ok () w:=by rfl
 have j:(Instr.findKey 3 (bU cq n) a.t).run prog w=.ok (match M.findIdx? (λm=>decide (m.1=n)) with|none=>cw|some i=>cu (0+i,((M.find? λm=>decide (m.1=n)).map λm=>Aa m.2).getD undef)) w:=by simp_all[Instr.findKey]
 have d:M.findIdx? (λm=>decide (m.1=n))=cw↔M.find? (λm=>decide (m.1=n))=cw:=by grind
 unfold Instr.lookup;simp only[lx,yI underlying172,Result.andThen,MapKept.run_getObj_map h,rN,e,j];unfold Oe;cases k:M.findIdx? λm=>decide (m.1=n) with|none=>rw[d.1 k];rfl|some i=>cases l:M.find? λm=>decide (m.1=n)<;>simp_all
theorem ack{M:List jO}(h:lW w b M)(m:jO)(n:M.find? (λx=>decide (x.1=m.1))=cw):
 ∃w',(Instr.mapUpdate 172 (.map (cu b)) (bU cq m.1) (Aa m.2)).run prog w=.ok () w'/\lW w' b (M++[m])/\w.grownBy w' (cu b)/\w'.h.s=w.h.s:=by
 obtain⟨a,c,h,g,st⟩:=h;have f:=Od m.1 a.t M 0 g;have l:M.findIdx? (λx=>decide (x.1=m.1))=cw:=by grind
 have d:(Instr.checkKey cy 10000 3 (bU cq m.1)).run prog w=.ok () w:=by rfl
 have j:(Instr.findKey 3 (bU cq m.1) a.t).run prog w=.ok cw w:=by simp_all[Instr.findKey]
 refine⟨ChangeMaps.setBlock w b (.map (a.push ⟨bU cq m.1,Aa m.2,c⟩) (c+1)),?_,⟨_,_,ChangeMaps.heap_setBlock_same h _,?_,?_⟩,⟨ae,ae,ae,by simp[ChangeMaps.setBlock],λi _ k=>ChangeMaps.heap_setBlock_other h _ λe=>k (by rw[e])⟩,by simp[ChangeMaps.setBlock]⟩;unfold Instr.mapUpdate;simp only[lx,yI underlying172,Result.andThen,MapKept.run_getObj_map h,d,j,MapKept.run_setObj_map _ h];rfl;simp[g,V4];grind[range_succ]
def afx:c7->Nat
 |bU _ n=>n.m
 |_=>0
def akw:c7->Bool
 |bZ b=>b
 |_=>cy
def unE:c7×c7->jO
 |(k,bV cs)=>(afx k,((afx (cs.getD 0 undef),afx (cs.getD 1 undef),afx (cs.getD 2 undef)),akw (cs.getD 3 undef)))
 |(k,_)=>(afx k,(cY,cy))
theorem ahs(m:jO):unE (V4 m)=m:=by rfl
def ph(w:cS)(b r:Nat)(M S L:List jO):Prop:=∃d a c,w.h[b]?=cu (.map d a)/\d.t.map (λe=>(e.key,e.val))=M.map V4/\d.t.map MapEntry.born=range a/\
 w.h[r]?=cu (.mapIter (cu b) a c a)/\(S++L).Perm M/\(leftOf d c).t.map (λe=>unE (e.key,e.val))=L
theorem ph.lt{w:cS}{b r:Nat}{M S L:List jO}(h:ph w b r M S L):b<w.h.s/\r<w.h.s:=by obtain⟨_,_,_,h,_,_,g,_⟩:=h;grind
theorem ph.same{M S L:List jO}(h:ph w b r M S L)(e:w'.h[b]?=w.h[b]?)(f:w'.h[r]?=w.h[r]?):ph w' b r M S L:=by grind[ph]
def V5{M:List jO}(h:lW w b M):∃w',(Instr.range 172 (.map (cu b))).run prog w=.ok (bW (cu ⟨w.h.s,0,cw⟩)) w'/\ph w' b w.h.s M [] M/\w.grownBy w' cw/\w'.h.s=w.h.s+1:=by
 have lt:=h.lt;obtain⟨a,c,h,g,st⟩:=h;refine⟨_,run_range_map w 172 3 177 b a c underlying172 h,⟨a,c,#[],((SZ w _).2 b lt).trans h,g,st,(SZ w _).1,.refl _,?_⟩,World.grownBy_alloc w _ cw,by simp⟩;have e:(leftOf a #[]).t=a.t:=by simp[leftOf]
 rw[e];have:a.t.map (λe=>unE (e.key,e.val))=(a.t.map λe=>(e.key,e.val)).map unE:=by simp
 rw[this,g,wU];conv=>rhs;rw[<-map_id M]
 rfl
theorem KL:∀(l:List MapEntry),(l.map MapEntry.born).Nodup->∀e∈l,l.Perm (e::l.filter λx=>!(x.born==e.born))
 | [],_,_,h=>by cases h
 |a::l,nd,e,h=>by
  simp only[yh,yo] at nd;rcases iX.1 h with rfl|h
  . have:l.filter (λx=>!(x.born==e.born))=l:=List.filter_eq_self.2 λx d=>by
     grind
    simp[this]
  . have c:a.born≠e.born:=λb=>nd.1 (gT.2 ⟨e,h,b.symm⟩);have:(a::l).filter (λx=>!(x.born==e.born))=a::l.filter λx=>!(x.born==e.born):=by simp[c]
    rw[this];exact((KL l nd.2 e h).cons a).trans (.swap _ _ _)
theorem ph.next{M S L:List jO}(h:ph w b r M S L)(ty:dW):
 (L=[]/\S.Perm M/\(Instr.next (bW (cu ⟨r,0,cw⟩)) cy ty).run prog w=.ok (cg #[bZ cy]) w)∨
 ∃m u w',(Instr.next (bW (cu ⟨r,0,cw⟩)) cy ty).run prog w=.ok (cg #[bZ cx,bU cq m.1,Aa m.2]) w'/\ph w' b r M (S++[m]) u/\u.n<L.n/\w.grownBy w' (cu r)/\w'.h.s=w.h.s/\
  (Instr.entry (bW (cu ⟨r,0,cw⟩))).run prog w'=.ok (cg #[bU cq m.1,Aa m.2]) w':=by
 obtain⟨j,c,a,v,g,st,A,J,D⟩:=h;have H:(j.t.map MapEntry.born).Nodup:=by grind
 rcases run_next_at w ty r b c c a j c A v (λx G=>zA.1 (st▸gT.2 ⟨x,G,ae⟩)) (eN _) with⟨I,f⟩|⟨e,y,w1,k,f⟩;(have:L=[]:=by grind);subst this;exact .inl ⟨ae,by grind,f⟩;(obtain⟨n,E⟩:=mem_left y;obtain⟨m,_,p⟩:=gT.1 (g▸gT.2 ⟨e,n,ae⟩);have z:e.key=bU cq m.1:=(gQ Prod.fst p).symm;have B:e.val=Aa m.2:=(gQ Prod.snd p).symm;have s:w1.h[r]?=cu (.mapIter (cu b) c a c):=by rcases k with rfl|rfl<;>exact A);(have q:w1.h[b]?=cu (.map j c):=by rcases k with rfl|rfl<;>exact v);(have d:=heap_set (o':=.mapIter (cu b) c (a.push e.born) c) s;have l:=(d.2 b (λo=>(λe=>by grind) o.symm)).trans q;have l2:(leftOf j (a.push e.born)).t=(leftOf j a).t.filter λx=>!(x.born==e.born):=by unfold leftOf;rw[Array.toList_filter,Array.toList_filter,filter_filter];grind);(have t:((leftOf j a).t.map MapEntry.born).Nodup:=by grind[leftOf]);have C:=(KL _ t e y).map λe=>unE (e.key,e.val);rw[<-l2,D,yh,<-p,ahs] at C;refine .inr ⟨m,(leftOf j (a.push e.born)).t.map λe=>unE (e.key,e.val),_,by rw[<-z,<-B];exact f,⟨j,c,a.push e.born,l,g,st,d.1,?_,ae⟩,by have:=C.length_eq;grind,?_,?_,?_⟩;grind;rcases k with rfl|rfl<;>exact⟨ae,ae,ae,by simp[ChangeMaps.setBlock],λi _ F=>d.2 i (λo=>F (by rw[o]))⟩;rcases k with rfl|rfl<;>simp[ChangeMaps.setBlock];rw[<-z,<-B];exact run_entry_at _ r b c a j c e d.1 l n H
end
def JO(m:cQ×Bool):∀i,(Br m i).oneCell'=cx:=by intro i;unfold Br;split;exact dJ _ _;rfl
def aab:ky prog 177 4:=⟨⟨_,underlying177,ae⟩,dC⟩
instance inbd671 :s7 177 4:=⟨aab⟩
def afy(q:cQ)(o:Bool):prog.built 177 [(0,bV (cM 3 (dE q))),(1,bZ o)]=cu (cM 4 (Br (q,o))):=dC
theorem acm(m:cQ×Bool):∀i,i<3->Br m (0+i)=dE m.1 i:=by simp_all[Br]
theorem lW.ty{M:List jO}(h:lW w b M):iy w b=cw:=by obtain⟨a,c,h,_⟩:=h;grind[iy]
theorem dg.akx{T:Nat}(h:dg w T sz v n xs)(r:jZ c w w')(hc:iy w c=cw):dg w' T sz v n xs:=by obtain⟨k,d,cap,l,m,p,q⟩:=h;refine⟨k,d,cap,l,m,p,λs=>?_⟩;obtain⟨b,o,f,j,g,a,i⟩:=q s;have lt:=(rI.1 a).1;refine⟨b,o,f,j,g,(r.block b lt λe=>?_).trans a,i⟩;grind[iy]
def reX(b:Nat)(w:cS)(M:List jO):cV->cS->Prop:=λB W=>lW W b M/\b∉B/\jZ b w W/\∀c∈B,w.h.s<=c
theorem jZ.then{a:cS}(h:jZ b w W)(g:jZ b W a):jZ b w a:=
 by grind[trans]
def V6(b:Nat)(w:cS)(M:List jO):lN none (reX b w M) where
 cP:=λh hb=>⟨h.1.same (hb.block b h.1.lt),h.2.1,h.2.2.1.then ⟨hb.os,hb.tape,hb.output,hb.size,λk hk _=>hb.block k hk⟩,h.2.2.2⟩
 add:=fun {B W c} h hc=>⟨h.1,λhm=>by
  rcases iX.1 hm with e|hm
  . have:=h.1.lt;omega
  . exact h.2.1 hm,h.2.2.1,λd hd=>by
  rcases iX.1 hd with e|hd
  . have:=h.2.2.1.size;omega
  . exact h.2.2.2 d hd⟩
 mono:=λh hs=>⟨h.1,λhm=>h.2.1 (hs _ hm),h.2.2.1,λd hd=>h.2.2.2 d (hs _ hd)⟩
 but:=fun {B W W' c t} h hc hb _ _ _=>⟨h.1.same (hb.block b h.1.lt λe=>h.2.1 (e▸hc)),h.2.1,⟨hb.os.trans h.2.2.1.os,hb.tape.trans h.2.2.1.tape,hb.output.trans h.2.2.1.output,ik h.2.2.1.size hb.size,λk hk hne=>(hb.block k (pK hk h.2.2.1.size) (λe=>by have:=h.2.2.2 c hc;omega)).trans (h.2.2.1.block k hk hne)⟩,h.2.2.2⟩
 dev:=λ_ e=>by cases e
section
variable {w1:cS}{m x v:Nat}{ty:dW}
def acn{M:List jO}(S:St w0 cw l L O (reX b w1 M) w){t:Bool}(f:a.eval (.tmp m)=.map (cu b))(g:a.eval (.tmp x)=bU cq n)(e:Oe M n=cg #[bV A,bZ t])(h:wpList prog ops Q rest (a.put (cu dst) (cg #[bV A,bZ t])) w):
 wpList prog ops Q (⟨cu dst,.lookup 172 (.tmp m) (.tmp x) cx,t2,p,af,cw⟩::rest) a w:=by refine mz ae λK d=>?_;unfold Oper.wp;have c:=YK S.x.1 n;rw[e] at c;simp[execOp,f,g,c,Result.andThen];exact d _ _ h
def afz{M:List jO}(S:St w0 cw l L O (reX b w1 M) w)(g:w0.h.s<=b)(n:b<w1.h.s){q:jO}(i:A=cM 4 (Br q.2))(s:M.find? (λy=>decide (y.1=q.1))=cw)(r:a.eval (.tmp m)=.map (cu b))(t:a.eval (.tmp x)=bU cq q.1)(e:a.eval (.tmp v)=bV A)(h:∀W,St w0 cw l L O (reX b w1 (M++[q])) W->wpList prog ops Q rest (a.put cw undef) W):
 wpList prog ops Q (⟨cw,.mapUpdate 172 (.tmp m) (.tmp x) (.tmp v),t2,p,af,cw⟩::rest) a w:=by
 obtain⟨w',d,k,o,u⟩:=ack S.x.1 q s;have e:a.eval (.tmp v)=Aa q.2:=by rw[e,i];rfl
 refine mz ae λK j=>?_;unfold Oper.wp;simp only[execOp,r,t,e,lx,d,Result.andThen];have f:=uY o;have c:=(S.EH (X':=λ_ _=>True) (λ_ _ _=>iC) xl).obj f S.x.1.ty g lT.t;exact j _ _ (h _ ⟨c.fr,c.row,c.own,c.lo,c.nd,⟨k,S.x.2.1,S.x.2.2.1.then f,S.x.2.2.2⟩,V6 _ _ _⟩)
end
section
attribute[local irreducible]wpList Code.wp Calls Oper.wp wpAnyH
def aco(a:Bool)(l:List cQ)(v:c7)(b:Nat)(p:List jO)(w:cS)(R:dg w 106 3 v l.n (iZ l))(H:lW w b p):
 CP_ 88 #[.map (cu b),v,bZ a] w λe w'=>e=cj (bZ (pQ a l (p,cy)).2)/\lW w' b (pQ a l (p,cy)).1/\jZ b w w':=by
 have T:l.n<=maxLen:=by obtain⟨_,_,_,_,h1,h2,_⟩:=R;omega
 unfold maxLen at T;obtain⟨ao,cap,rfl,X,Q⟩:=dQ R;have HR:=cz R;have HN:=cz H.ty;have F:=H.lt;have S:St {w with heap:=#[]} cw [] [] [] (reX b w p) w:=⟨⟨ae,ae,ae,gG _,(λk Y=>absurd Y (vz _)),(λD e=>by cases e),(λD e=>by cases e)⟩,(λr hr=>by cases hr),(λo ho=>by cases ho),(λc hc=>by cases hc),nodup_nil,⟨H,jL,.refl _ _,λc hc=>by cases hc⟩,V6 _ _ _⟩;clear R H;go_enter func88,ntmps88;go_upto_region 3 with(fail);go_loopw [7,14] (λtw i wr=>∃(k:Nat)(M:List jO)(t:Bool),k<=l.n/\i=bU cq k/\tw=bZ t/\Hid (pQ a (l.take k) (p,cy)=(M,t)/\St {w with heap:=#[]} cw [] [] [] (reX b w M) wr)) (λ_ i _=>l.n-(intOf i).m);exact⟨0,p,cy,cN,ae,ae,cz ⟨ae,S⟩⟩;clear S;obtain⟨k,M,t,Y,rfl,rfl,hS⟩:=hrel;by_cases z:k<l.n
 . (obtain⟨bb,o,rfl⟩:=Q cN;obtain⟨q,U⟩:=dG (l[k]);have d:=Mq (l6 a) (p,cy) l z;have x:=hS.o.1;unfold pQ at x;rw[x,U] at d;obtain⟨J,s⟩:=fU (cM 3 (dE q));have G:=cz (kG l z (A:=J) (by rw[U];exact s));have j:=cz s;have S:=hS.o.2;have a1:(k:Int)<(l.n:Int):=cN;have O:∀{W:cS},jZ b w W->dg W 106 3 _ l.n (iZ l):=λh=>HR.o.akx h HN.o;clear hS x U s;rcases hf:M.find? λy=>decide (y.1=q.1) with _|m;obtain⟨I,g⟩:=yw (cM 4 (Br (cY,cy)));obtain⟨V,B⟩:=yw (cM 4 (Br (q,a)));have E:=cz (show Oe M q.1=cg #[bV I,bZ cy] by unfold Oe;rw[hf,g.o];rfl);have K:=cz (show prog.built 177 [(0,bV J),(1,bZ a)]=cu V by rw[j.o,B.o];exact afy q a);have L:=cz hf;have f:l6 a (M,t) q=(M++[(q.1,(q,a))],t):=by unfold l6;rw[hf]);rw[f] at d;have n:=cz d;clear hf f d;rotate_left;(obtain⟨I,g⟩:=yw (cM 4 (Br m.2));obtain⟨Z,C⟩:=yw (cM 3 (dE m.2.1));obtain⟨bq,u⟩:=dG (decide (m.2.1=q));have E:=cz (show Oe M q.1=cg #[bV I,bZ cx] by unfold Oe;rw[hf,g.o];rfl);have a2:∀W,(binOp .neq 106 (bV Z) (bV J)).run prog W=.ok (bZ !bq) W:=λW=>by have:=F7 m.2.1 q bq u W;rw[C.o,j.o];exact this);(have N:=cz (acm m.2);have f:l6 a (M,t) q=(M,if bq=cx then t else cx):=by unfold l6;rw[hf,<-u];by_cases e:m.2.1=q<;>simp[e]);rw[f] at d;have n:=cz d;clear hf f d u;rcases bq with _|_;rotate_left
   all_goals
    go_wp2_with first|(first|refine jl 21 3 20 S 0 0 (bU cq q.1) ?_|refine jl 29 3 28 S 1 0 (bU cq q.1) ?_)|refine oV S rfl rfl j.o fL rfl nF (dJ _) λW S=>?_|refine acn S ae ae E.o ?_|refine oV S rfl rfl g.o aab rfl nF (JO _) λW S=>?_|refine lE (cells:=V) ae K.o ?_|refine afz S (gG _) F (q:=(q.1,(q,a))) B.o L.o rfl rfl rfl λW S=>?_|(first|refine CB (O S.x.2.2.1) z (vx j) G.o ?_|refine oM_ S 0 ae (o:=0) (m:=3) (dE m.2.1) N.o C.o ?_)|refine fO ?_
    go_roundw
    case rel=>first|exact⟨k+1,_,t,cN,by go_num,ae,cz ⟨n.o,S.pop.pop⟩⟩|exact⟨k+1,M,cx,cN,by go_num,ae,cz ⟨n.o,S.pop.pop⟩⟩|exact⟨k+1,M,t,cN,by go_num,ae,cz ⟨n.o,S.pop.pop⟩⟩
    case measure=>exact qN
 . obtain rfl:k=l.n:=cN;have S:=hS.o.2;have L:=cz (show pQ a l (p,cy)=(M,t) by have:=hS.o.1;rwa [qp] at this);clear hS;go_wp2;go_ret;rw[L.o];exact⟨ae,S.x.1,S.x.2.2.1⟩
def ai9:Ren:=⟨fun|189=>90|125=>157|257=>156|128=>217|129=>218|294=>208|295=>209|296=>210|297=>211|298=>212|299=>213|216=>214|300=>215|301=>216|328=>250|329=>251|330=>252|331=>253|332=>254|215=>255|343=>278|n=>n,fun|28=>81|46=>222|51=>104|53=>82|183=>304|182=>303|131=>156|218=>339|222=>342|228=>356|229=>357|n=>n,λn=>n⟩
def Av{b c:Func}(h:o=cu b)(e:b=c:=by kernel_rfl):o=cu c:=by rw[h,e]
def S4:Lays.n189 prog ai9:=
 ⟨dC,Av func157,Av func217,Av func218,Av func90,Av func255,Av func214,Av func156,Av func208,Av func209,Av func210,Av func211,Av func212,Av func213,Av func215,Av func216,Av func250,Av func251,Av func252,Av func253,Av func254,Av func278,
  underlying0,isAgg0,sizeOf0,zeroValue0,vR,isAgg3,sizeOf3,zeroValue3,underlying4,isAgg4,sizeOf4,zeroValue4,yN,isAgg5,sizeOf5,zeroValue5,yV,isAgg9,sizeOf9,zeroValue9,qq,isAgg81,sizeOf81,zeroValue81,underlying222,isAgg222,sizeOf222,zeroValue222,underlying104,isAgg104,sizeOf104,zeroValue104,underlying82,isAgg82,sizeOf82,zeroValue82,underlying156,isAgg156,sizeOf156,zeroValue156,underlying303,isAgg303,sizeOf303,zeroValue303,underlying304,isAgg304,sizeOf304,zeroValue304,underlying339,isAgg339,sizeOf339,zeroValue339,underlying342,isAgg342,sizeOf342,zeroValue342,underlying356,isAgg356,sizeOf356,zeroValue356,underlying357,isAgg357,sizeOf357,zeroValue357⟩
theorem acp(v u:c7)(l m:List (Int×Int))(w:cS)(L:fj w v l)(K:fj w u m):
 sW 92 #[v,u] w (bZ (decide (l=m))):=by
 obtain⟨M,cap,rfl,E,_,hc⟩:=L;obtain⟨O,D,rfl,B,_,n⟩:=K;have F:=cz hc;clear hc;have t:=cz n;clear n;by_cases d:l.n=m.n
 . (have q:=cz d;have I:((l.n:Int)!=(m.n:Int))=cy:=by simp[d]);clear d;go_enter func92,ntmps92;go_wp2_with (fail)
   go_loopw [13] (λi wr=>∃(k:Nat),k<=l.n/\i=bU cq k/\Hid (∀j(z:j<k)(r:j<l.n)(s:j<m.n),l[j]=m[j])/\dS w wr)
    (λi _=>l.n-(intOf i).m)
   exact an1;obtain⟨k,V,rfl,C,hbel⟩:=hrel;by_cases f:k<l.n
   . (have e:k<m.n:=by have:=q.o;omega);obtain⟨b,o,rfl,y,c⟩:=F.o (by intro h;simp[h] at f);obtain⟨N,o',rfl,g,a⟩:=t.out (by intro h;simp[h] at e);obtain⟨Q,R⟩:=tS y c hbel f;obtain⟨T,U⟩:=tS g a hbel e;clear c a;have G:(k:Int)<(l.n:Int):=cN;have H:(k:Int)<(m.n:Int):=cN;by_cases p:l[k]=m[k]
     . have x:=cz p;have J:=QZ l[k].1 l[k].2 m[k].1 m[k].2 cy (by rw[p];simp);clear p;go_wp2_with (go_quiet (fail));go_roundw;(case rel=>refine⟨k+1,cN,by go_num,λj z r s=>?_,by refine below_drewN ?_ _;go_grown⟩;by_cases A:j=k;subst A;exact x.o;exact C.o j cN r s);case measure=>exact qN
     . have x:=cz p;have J:=QZ l[k].1 l[k].2 m[k].1 m[k].2 cx (by
        grind)
       clear p;go_wp2_with (go_quiet (fail));go_ret;exact⟨uM (by rw[jC (JX f e x.o)]),by refine below_drewN ?_ _;go_grown⟩
   . go_wp2;go_ret;exact anC
 . (have q:=cz d;have I:((l.n:Int)!=(m.n:Int))=cx:=by rw[fK];omega);clear d;go_enter func92,ntmps92;go_wp2;go_ret;exact anP
def Cu(a b:c7)(r:GJ):Nat->c7:=λi=>if i=0 then a else if i=1 then b else if i=2 then bZ r.Z' else if i=3 then bU cq r.cU else bU cq r.blocks
def aky:ky prog 91 5:=⟨⟨_,underlying91,ae⟩,dC⟩
instance in0de67 :s7 91 5:=⟨aky⟩
def ah3:lD prog 66:=⟨⟨_,underlying66,ae⟩,dC⟩
instance in9a29d :rk 66:=⟨ah3⟩
def fj.afA{l:List (Int×Int)}(h:fj w v l)(a:dS w w'):fj w' v l:=fj.cP h a
def QO(a b:c7)(r:GJ)(A:gJ)(g:A=cM 5 (Cu a b r))(w:cS)(e:fj w a r.wP)(f:fj w b r.taken):
 sW 36 #[bV A] w (bZ (Ct r)):=by have j:=cz g;have S:=qP w;have d:=cz λW(h:dS w W)=>acp a b r.wP r.taken W (e.afA h) (f.afA h);obtain⟨c,hc⟩:=dG (decide (r.wP=r.taken));rw[hc] at d;obtain⟨t,i⟩:=dG r.Z';rw[show Ct r=(c&& !t) by unfold Ct;rw[hc,i]];clear g e f hc;go_enter func36,ntmps36;cases c with|false=>go_wp2_with (first|(with_reducible first|refine jl 4 66 3 S 0 0 (a) ?_|refine jl 6 66 5 S 0 1 (b) ?_)|(go_at_call 92;refine je S (d.o _ S.b) λW S=>?_)|refine fu λW S=>?_);go_ret;exact az|true=>go_wp2_with (first|(with_reducible first|refine jl 4 66 3 S 0 0 (a) ?_|refine jl 6 66 5 S 0 1 (b) ?_|refine jm 10 4 9 S 0 2 (bZ r.Z') ?_)|(go_at_call 92;refine je S (d.o _ S.b) λW S=>?_)|refine fu λW S=>?_);go_ret;exact⟨by cases t<;>rfl,S.b⟩
end
section
open Go.Sort
theorem afB(h:w.ownsRow base 3 1 v n (zs.map (Value.int cq)))(m:zs.n<=100000000):
 CP_ 90 #[v] w λe w'=>e=cj (cg #[])/\w'.ownsRow base 3 1 v n ((zs.mergeSort λx y=>decide (x<=y)).map (Value.int cq))/\w.grownBy w' v.ownBlock:=by
 have i:zs.n=n:=by have:=h.1;grind
 subst i;rcases vM zs.n with h0|h0;have f:zs=[]:=yj h0;subst f;rcases h.2 with⟨rfl,_⟩|⟨g,cap,b,rfl,_⟩;exact(calls_of_every_depth λD=>AnyS.slices_Sort_int_none_in S4 D cw 0 w).mono λe w' ⟨a,h2⟩=>⟨a,by simp_all,by grind[World.grownBy.refl]⟩;exact(calls_of_every_depth λD=>AnyS.slices_Sort_int_none_in S4 D (s_ g 0) cap w).mono λe w' ⟨a,h2⟩=>⟨a,by simp_all,by grind[World.grownBy.refl]⟩;obtain⟨_,⟨_,a⟩|⟨g,cap,b,rfl,j,c,k,hc,l,d⟩⟩:=h;omega;rw[sL] at d;have lt:=(rI.1 c).1;refine(Any.slices_Sort_int S4 g 0 cap zs w (holds_of_blockI (ss:=zs) c d) lt cN).mono λe w' ⟨a,n,os,h2⟩=>⟨a,?_,?_⟩;simp_all[ownsRow_sortedI];subst h2;exact grownBy_sortedI _
end
def mkX(b:Nat)(M:List jO):cV->cS->Prop:=λB w=>lW w b M/\b∉B
theorem lW.fr{w w':cS}{b:Nat}{M:List jO}{d:Option Nat}{l:cV}(h:lW w b M)(f:Fr d l w w'):lW w' b M:=
 h.same (f.block b h.lt λ⟨t,ht,_⟩=>by rw[h.ty] at ht;cases ht)
def tM(b:Nat)(M:List jO):vD (mkX b M) where
 cP:=λh hb=>⟨h.1.same (hb.block b h.1.lt),h.2⟩
 add:=λh hb=>⟨h.1,λhm=>by
  rcases iX.1 hm with e|hm
  . have:=h.1.lt;omega
  . exact h.2 hm⟩
 mono:=λh hs=>⟨h.1,λhm=>h.2 (hs _ hm)⟩
 but:=fun {B w w' c} h hc hb=>⟨h.1.same (hb.block b h.1.lt λe=>h.2 (e▸hc)),h.2⟩
 fr:=λh f=>⟨h.1.fr f,h.2⟩
theorem lT.sl(e:dW)(z:Nat)(v:c7)(n:Nat)(xs:List c7):lT (yQ e z v n xs):=λ_ _ _ _ h a b=>⟨h.1.akx a b,h.2⟩
theorem lT.cU(v:c7)(l:List dL):lT (rU v l):=λ_ _ _ _ h a b=>⟨lT.sl _ _ _ _ _ _ _ _ _ h.1 a b,λx c=>lT.sl _ _ _ _ _ _ _ _ _ (h.2 x c) a b⟩
def aht:(#[bX cw 0 0,bX cw 0 0,bZ cy,bU cq 0,bU cq 0]:gJ)=cM 5 (Cu (bX cw 0 0) (bX cw 0 0) zy):=rfl
def ahu:prog.built 91 []=cu (cM 5 (Cu (bX cw 0 0) (bX cw 0 0) zy)):=dC
def S5(w:cS)(base:Nat)(A:gJ)(r:GJ):Prop:=∃a b,A=cM 5 (Cu a b r)/\(mT w base a r.wP/\mT w base b r.taken)/\fj w a r.wP/\fj w b r.taken
def Ab(w:cS)(base:Nat):S5 w base (cM 5 (Cu (bX cw 0 0) (bX cw 0 0) zy)) zy:=⟨_,_,ae,⟨iD _ _ _ _,iD _ _ _ _⟩,tR w,tR w⟩
def dg.S6{l:List (Int×Int)}(h:dg w 141 2 v l.n (iP l))(p:∀x∈l,eT x.1/\eT x.2)(m:l.n<=9223372036854775807):fj w v l:=by obtain⟨c,cap,rfl,_⟩:=id h.2;refine⟨c,cap,ae,m,p,λn=>?_⟩;obtain⟨s,d,a,e,_,_,g⟩:=id h;obtain⟨b,o,q,r,f,i,hc⟩:=g (Bw.2 n);cases e;subst f;refine⟨b,o,ae,(rI.1 i).1,λk j=>?_⟩;have:=wB l k j;exact⟨h.cellAt cN this.1,by rw[FP];exact h.cellAt cN this.2⟩
def si{a b:c7}{r:GJ}(c:a.oneCell'=cx)(d:b.oneCell'=cx):∀i,(Cu a b r i).oneCell'=cx:=by intro i;unfold Cu;split;exact c;split;exact d;split;rfl;split<;>rfl
def afC(a:Option Addr)(n c k:Nat)(b:List (Int×Int)):prog.built 91 [(1,bX a n c),(3,bU cq k)]=cu (cM 5 (Cu (bX cw 0 0) (bX a n c) ⟨[],b,cy,k,0⟩)):=dC
section
variable {M M':List jO}
variable {ty:dW}
def ahv(S:St w0 d l L O X w)(h:∀b W,w0.h.s<=b->St w0 d l L O (λB w=>X B w/\mkX b [] B w) W->wpList prog ops Q rest (a.put (cu dst) (.map (cu b))) W):
 wpList prog ops Q (⟨cu dst,.makeMap ty cw,t2,p,af,cw⟩::rest) a w:=by refine mz ae λK c=>?_;unfold Oper.wp;simp only[execOp,lx,rN,Result.andThen,run_makeMap];exact c _ _ (h _ _ S.fr.size ((S.cP ((gK _ _).alloc (eN _) _)).DH (tM _ []) ⟨YJ w,λe=>ug _ (S.lt _ e)⟩))
theorem Lt{x:Nat}{o m:Nat}(hc:∀i,i<m->w.cell? ⟨b0,o+i,cw⟩=A[i]?)(j:A.s=m)(g:a.eval (.tmp x)=bW (cu ⟨b0,o,cw⟩))(e:ky P ty m)(h:wpList P ops Q rest (a.put (cu dst) (bV A)) w):wpList P ops Q (⟨cu dst,.load ty (.tmp x),t2,p,af,cw⟩::rest) a w:=by
 obtain⟨⟨b,f,c⟩,k⟩:=e;have d:w.rangeAt b0 o A.t:=by intro i v l;grind
 have:=wpList_load_mid (op:=⟨cu dst,.load ty (.tmp x),t2,p,af,cw⟩) (ops:=ops) (rest:=rest) (Q:=Q) ae ty (.tmp x) ae b0 _ g A.t b d f c jH;rw[vA] at this;exact this h
theorem nD.cO{o:Nat}{x:dL}(h:nD w b0 o x)(b:A=cM 3 (dE x.cO)):∀i,i<3->w.cell? ⟨b0,o+7+i,cw⟩=A[i]?:=by intro i a;rw[FP,h (7+i) cN,b,dy,c8 a,wq x i a]
theorem St.Lu(S:St w0 d l L O X w')(g:∀k∈eM L O,k<base)(ho:w'.ownsRow base e z v n xs)(c:lQ e=cy)(f:gZ e=cy):St w0 d l L O (λB w=>X B w/\yQ e z v n xs B w) w':=
 S.DH (fF e z v n xs c f) ⟨dg.j8 ho,λ_ b a i=>by have h:=(ho.lt b a).1;grind⟩
def St.marks(S:St w0 d l L O (λB w=>X B w/\mkX b M B w) w)(c:lT X)(g:lN d X)(a:w0.h.s<=b)(e:jZ b w w')(f:lW w' b M'):St w0 d l L O (λB w=>X B w/\mkX b M' B w) w':=
 ((S.EH (X':=X) (λ_ _ h=>h.1) g).obj e S.x.2.1.ty a c).DH (tM b M') ⟨f,S.x.2.2⟩
end
def rgX(b r:Nat)(M S L:List jO):cV->cS->Prop:=λB w=>ph w b r M S L/\b∉B/\r∉B
theorem ph.tys{M S L:List jO}(h:ph w b r M S L):iy w b=cw/\iy w r=cw:=by obtain⟨_,_,_,a,_,_,c,_⟩:=h;unfold iy;grind
def V7(b r:Nat)(M S L:List jO):vD (rgX b r M S L) where
 cP:=λh hb=>⟨h.1.same (hb.block b h.1.lt.1) (hb.block r h.1.lt.2),h.2⟩
 add:=λh hb=>⟨h.1,λhm=>by
  rcases iX.1 hm with e|hm
  . have:=h.1.lt.1;omega
  . exact h.2.1 hm,λhm=>by
  rcases iX.1 hm with e|hm
  . have:=h.1.lt.2;omega
  . exact h.2.2 hm⟩
 mono:=λh hs=>⟨h.1,λhm=>h.2.1 (hs _ hm),λhm=>h.2.2 (hs _ hm)⟩
 but:=fun {B w w' c} h hc hb=>⟨h.1.same (hb.block b h.1.lt.1 λe=>h.2.1 (e▸hc)) (hb.block r h.1.lt.2 λe=>h.2.2 (e▸hc)),h.2⟩
 fr:=λh f=>⟨h.1.same (f.block _ h.1.lt.1 λ⟨t,ht,_⟩=>by rw[h.1.tys.1] at ht;cases ht) (f.block _ h.1.lt.2 λ⟨t,ht,_⟩=>by rw[h.1.tys.2] at ht;cases ht),h.2⟩
theorem ph.perm{M S L:List jO}(h:ph w b r M S L):(S++L).Perm M:=by obtain⟨_,_,_,_,_,_,_,h,_⟩:=h;exact h
theorem ph.left_eq{M S L:List jO}(h:ph w b r M S L):w.rangeLeft b r=L.n:=by obtain⟨d,c,a,f,_,_,g,_,e⟩:=h;grind[World.rangeLeft]
section
variable {M Sn Lf:List jO}
variable {m:Nat}{ty:dW}
def YL(S:St w0 d l L O (λB w=>X B w/\mkX b M B w) w)(j:lN d X)(e:a.eval (.tmp m)=.map (cu b))(h:∀r W,w0.h.s<=r->St w0 d l L O (λB w=>X B w/\rgX b r M [] M B w) W->wpList prog ops Q rest (a.put (cu dst) (bW (cu ⟨r,0,cw⟩))) W):
 wpList prog ops Q (⟨cu dst,.range 172 (.tmp m),t2,p,af,cw⟩::rest) a w:=by obtain⟨w',c,g,i,_⟩:=V5 S.x.2.1;refine mz ae λK f=>?_;unfold Oper.wp;simp[execOp,e,c,Result.andThen];exact f _ _ (h _ _ S.fr.size (((S.cP (zd i)).EH (X':=X) (λ_ _ h=>h.1) j).DH (V7 _ _ _ _ _) ⟨g,S.x.2.2,λe=>ug _ (S.lt _ e)⟩))
def acq(S:St w0 d l L O (λB w=>X B w/\rgX b r M Sn Lf B w) w)(t:lT X)(x:lN d X)(k:w0.h.s<=r)(j:a.eval (.tmp m)=bW (cu ⟨r,0,cw⟩))(n:Lf=[]->Sn.Perm M->wpList prog ops Q rest (a.put (cu dst) (cg #[bZ cy])) w)(o:∀q f W,f.n<Lf.n->St w0 d l L O (λB w=>X B w/\rgX b r M (Sn++[q]) f B w) W->(Instr.entry (bW (cu ⟨r,0,cw⟩))).run prog W=.ok (cg #[bU cq (q.1:Nat),Aa q.2]) W->wpList prog ops Q rest (a.put (cu dst) (cg #[bZ cx,bU cq (q.1:Nat),Aa q.2])) W):
 wpList prog ops Q (⟨cu dst,.next (.tmp m) cy,t2,p,af,cw⟩::rest) a w:=by refine mz ae λK i=>?_;unfold Oper.wp;rcases S.x.2.1.next t2 with⟨e,y,c⟩|⟨q,f,w',c,s,v,u,_,g⟩;simp[execOp,j,c,Result.andThen];exact i _ _ (n e y);simp[execOp,j,c,Result.andThen];exact i _ _ (o q f w' v (((S.EH (X':=X) (λ_ _ h=>h.1) x).obj (uY u) S.x.2.1.tys.2 k t).DH (V7 _ _ _ _ _) ⟨s,S.x.2.2.1,S.x.2.2.2⟩) g)
end
theorem S7(b:Bool)(B:Nat):∀(l:List cQ)(a:List jO×Bool),(∀q∈l,q.1<=B)->(∀m∈a.1,m.1<=B)->(∀m∈(pQ b l a).1,m.1<=B)/\(pQ b l a).1.n<=a.1.n+l.n
 | [],a,_,h=>⟨h,by simp[pQ]⟩
 |q::l,a,hl,h=>by
  have e:pQ b (q::l) a=pQ b l (l6 b a q):=rfl;rw[e];have st:(∀m∈(l6 b a q).1,m.1<=B)/\(l6 b a q).1.n<=a.1.n+1:=by
   unfold l6
   grind
  obtain⟨d,f⟩:=S7 b B l (l6 b a q) (λx c=>hl x (kT _ c)) st.1
  grind
theorem acr(l:cV):qI l=(dN l).map (Value.int cq):=by simp[qI,dN]
theorem YM{l m:List Int}(h:l.Perm m):oG l=oG m:=by grind[oG]
section
variable {m:Nat}
def St.sorted{a:List c7}(S:St w0 d l L (⟨3,1,v,n,xs⟩::O) X w)(b:w.grownBy w' v.ownBlock)(c:w'.ownsRow w0.h.s 3 1 v n a):St w0 d l L (⟨3,1,v,n,a⟩::O) X w':=by rcases hb:v.ownBlock with _|g;(have f:n=0:=by rcases c.2 with⟨_,h⟩|⟨g,cap,e,rfl,_⟩;exact h;cases hb);have i:=S.o0.1;have j:=c.1;subst f;rw[hb] at b;obtain rfl:xs=[]:=yj cN;obtain rfl:a=[]:=yj cN;exact S.cP (zd b);exact S.grow (k:=0) ae b c hb (.inl hb)
def Of(b:(Instr.entry (bW (cu ⟨r,0,cw⟩))).run prog w=.ok v w)(d:a.eval (.tmp m)=bW (cu ⟨r,0,cw⟩))(h:wpList prog ops Q rest (a.put (cu dst) v) w):
 wpList prog ops Q (⟨cu dst,.entry (.tmp m),t2,p,af,cw⟩::rest) a w:=by refine mz ae λK c=>?_;unfold Oper.wp;simp[execOp,d,b,Result.andThen];exact c _ _ h
end
theorem ahw(h:w.ownsRow b 3 1 v n (zs.map (Value.int cq)))(d:∀x∈zs,0<=x/\x<=4294967296)(g:zs.n<=100000000):eU cq w v zs:=by
 have a:n=zs.n:=by have:=h.1;grind
 subst a;exact qW h (λx c=>by have:=d x c;have e:IntKind.i64.min= -9223372036854775808:=rfl;have f:IntKind.i64.max=9223372036854775807:=rfl;grind[Lit.wf]) cN
theorem EU(a:Bool):∀(l:List cQ)(M:List jO)(t:Bool),pQ a l (M,t)=((pQ a l (M,cy)).1,t||(pQ a l (M,cy)).2)
 | [],M,t=>by simp[pQ]
 |q::l,M,t=>by
  have h:∀t,pQ a (q::l) (M,t)=pQ a l (l6 a (M,t) q):=λ_=>ae;rw[h,h];unfold l6;simp only;cases M.find? λm=>decide (m.1=q.1) with
  |none=>exact EU a l _ t
  |some m=>
   simp only;split
   . exact EU a l M t
   . rw[EU a l M cx];simp
def aac(tk:List (Int×Int))(k:Nat)(w:Pl×((List jO×Bool)×Int)):Dv×(GJ×Int):=
 if w.2.2≠0 then(w.1.dv,(zy,w.2.2)) else
 (w.1.dv,(⟨iE (oG (w.2.1.1.map λm=>((m.1:Nat):Int))),tk,w.2.1.2,k,(w.2.1.1.filter λm=>!m.2.2).n⟩,0))
section
attribute[local irreducible]wpList Code.wp Calls Oper.wp wpAnyH
def V8(D:Nat)(d:Dv)(w:cS)(a:iQ w D d):
 CP_ 35 #[bW (cu ⟨D,0,cw⟩)] w λe w'=>∃A,e=cj (cg #[bV A,bU cq (vG d).2.2])/\S5 w' w.h.s A (vG d).2.1/\iQ w' D (vG d).1/\Fr (cu D) [] w w':=by
 have S:=St.start w (cu D) [] (gj D d) a;have C1:=cz λW(X:iQ W D d)=>Lh D d W X;have C2:=cz λW(X:iQ W D d)=>Hg D d W X;obtain⟨T,hT⟩:=dG (vG d);have s:=cz (show(if d.df=cx then(d,(zy,42)) else QL (eZ d).1 (eZ d).2)=T from by rw[<-hT];rfl);have b2:=(r7 d a.1.nw).2.2;obtain⟨d1,c5⟩:=dG ((eZ d).1);obtain⟨o,ho⟩:=dG ((eZ d).2);obtain⟨dd,f8⟩:=dG d.df;rw[hT];rw[c5,ho,f8] at s;rw[c5,ho] at C2;rw[f8] at C1;rw[ho] at b2;obtain⟨AZ,a6⟩:=fU (cM 5 (Cu (bX cw 0 0) (bX cw 0 0) zy));have E:=cz (show prog.built 91 []=cu AZ by rw[a6];exact ahu);have J:=cz a6;have HG:=cz (show∀W,S5 W w.h.s AZ zy from λW=>by rw[a6];exact Ab W _);have e7:=cz (show lI d1.nw by rw[<-c5,(r7 d a.1.nw).1];exact a.1.nw);clear a6;go_enter func35,ntmps35;cases dd with
 |true=>rw[c8 ae] at s;go_wp2_with (first|refine jb 2 91 S zeroValue91 aht λW S=>?_|refine js 91 2 21 S 0 J.o (si rfl rfl) λW S=>?_|refine mG (C1.o _ S.x) ?_|refine BZ E.o ?_|(refine mu ?_;refine Hid.o ?_));rw[<-s.o];exact cz ⟨_,⟨ae,ae⟩,Ab _ _,S.x,S.fr⟩
 |false=>
  rw[cX kM] at s;obtain⟨u,hu⟩:=dG (o.getD lR);obtain⟨th,j5⟩:=dG o.isSome;unfold QL at s;rw[hu,j5] at C2 s;rw[hu] at b2;have HU:=cz b2;clear b2
  go_upto_region 4 with(first|refine jb 2 91 S zeroValue91 aht λW S=>?_|refine js 143 4 25 S 0 i7.o (uk _) λW S=>?_|refine mG (C1.o _ S.x) ?_|(refine ah (C2.o _ S.x) λU WK⟨hU,hd,F⟩=>?_;have i7:=cz hU;replace S:=S.call F aw eQ (gj D d1) (λB h=>hd);clear hU)|refine fu λW S=>?_)
  have C3:=cz λW(X:iQ W D d1)=>Ag D d1 W X;obtain⟨n,hn⟩:=dG d1.n;have k5:n<=1024:=by rw[<-hn];obtain⟨_,sb,nb,pv,h1⟩:=S.x;exact h1.qD
  rw[hn] at C3 s;have HN:=cz hn;clear hn;cases th with
  |false=>
   rw[c8 ae] at s;obtain rfl:=s.o;refine eO S dC λW S=>?_;refine dh 0 _ ?_;refine dh 1 (bZ cx) ?_;refine dh 2 _ ?_;refine pP 3 ?_;refine pP 4 ?_;refine pP 5 ?_;refine pP 6 ?_;refine pP 7 ?_;refine dh 8 (bZ cx) ?_;refine dh 9 _ ?_;refine pP 10 ?_;refine pP 11 ?_;refine pP 12 ?_;refine dh 13 (bZ cx) ?_;refine qG ?_
   go_wp2_with first|refine js 91 2 41 S 1 J.o (si rfl rfl) λW S=>?_|refine BZ E.o ?_|(refine mu ?_;refine Hid.o ?_)
   exact anb
  |true=>
   rw[cX kM] at s;by_cases q1:u.gx=n
   case neg=>
    have e1:((u.gx:Int)!=(n:Int))=cx:=by rw[fK];omega
    rw[c8 q1] at s;obtain rfl:=s.o;refine eO S dC λW S=>?_;refine dh 0 _ ?_;refine dh 1 (bZ cy) ?_;refine dh 2 _ ?_;refine dh 3 (dF WK.h.s 6) ?_;refine dh 4 (bU cq u.gx) ?_;refine dh 5 _ ?_;refine kK 6 λK hK=>?_
    go_wp2_with fail
    refine mG (C3.o _ S.x) ?_;refine gy hK ?_;clear hK;refine dh 7 (bZ cx) ?_;refine dh 8 (bZ cx) ?_;refine dh 9 _ ?_;refine pP 10 ?_;refine pP 11 ?_;refine pP 12 ?_;refine dh 13 (bZ cx) ?_;refine qG ?_
    go_wp2_with first|refine js 91 2 41 S 1 J.o (si rfl rfl) λW S=>?_|refine BZ E.o ?_|(refine mu ?_;refine Hid.o ?_)
    exact anb
   rw[cX (λh=>h q1)] at s;have e1:((u.gx:Int)!=(n:Int))=cy:=by rw[vL,q1]
   by_cases q2:u.len=40
   case neg=>
    have e2:((u.len:Int) !=40)=cx:=by rw[fK];omega
    rw[c8 q2] at s;obtain rfl:=s.o;refine eO S dC λW S=>?_;refine dh 0 _ ?_;refine dh 1 (bZ cy) ?_;refine dh 2 _ ?_;refine dh 3 (dF WK.h.s 6) ?_;refine dh 4 (bU cq u.gx) ?_;refine dh 5 _ ?_;refine kK 6 λK hK=>?_
    go_wp2_with fail
    refine mG (C3.o _ S.x) ?_;refine gy hK ?_;clear hK;refine dh 7 (bZ cy) ?_;refine dh 8 (bZ cy) ?_;refine dh 9 _ ?_;refine dh 10 (dF WK.h.s 5) ?_;refine dh 11 (bU cq u.len) ?_;refine dh 12 (bZ cx) ?_;refine dh 13 (bZ cx) ?_;refine qG ?_
    go_wp2_with first|refine js 91 2 41 S 1 J.o (si rfl rfl) λW S=>?_|refine BZ E.o ?_|(refine mu ?_;refine Hid.o ?_)
    exact anb
   rw[cX (λh=>h q2)] at s;have e2:((u.len:Int) !=40)=cy:=by rw[vL,q2];rfl
   refine eO S dC λW S=>?_;refine dh 0 _ ?_;refine dh 1 (bZ cy) ?_;refine dh 2 _ ?_;refine dh 3 (dF WK.h.s 6) ?_;refine dh 4 (bU cq u.gx) ?_;refine dh 5 _ ?_;refine kK 6 λK hK=>?_
   go_wp2_with fail
   refine mG (C3.o _ S.x) ?_;refine gy hK ?_;clear hK;refine dh 7 (bZ cy) ?_;refine dh 8 (bZ cy) ?_;refine dh 9 _ ?_;refine dh 10 (dF WK.h.s 5) ?_;refine dh 11 (bU cq u.len) ?_;refine dh 12 (bZ cy) ?_;refine dh 13 (bZ cy) ?_;refine qG ?_;have C6:=cz λz l W(X:fh W z D l ⟨d1,pR n,0,0⟩)=>Is z D l ⟨d1,pR n,0,0⟩ u.iG HU.o.2.2.1 W X;obtain⟨A,hA⟩:=fU (cM 3 (dE u.iG));rw[dk hA] at C6;have HA:=cz hA;obtain⟨r,hr⟩:=dG (jX ⟨d1,pR n,0,0⟩ u.iG);rw[hr] at C6 s;obtain⟨s2,bk,C,ps,c⟩:=r;simp only at C6;have d9:=cz (show ps.n<=20000/\bk.cU.n<=1000000 from by have:=vi ⟨d1,pR n,0,0⟩ e7.o u.iG;rw[hr] at this;exact⟨this.2.1,this.1.fit.1⟩);have i2:=cz (show∀t∈bk.cU,dD t.cO from by have:=(vi ⟨d1,pR n,0,0⟩ e7.o u.iG).1.parts;rw[hr] at this;exact λt ht=>(this t ht).1);unfold aaa at s;simp only at s;have i6:=cz λi(hi:i<3)=>Dz (u:=u) i hi;clear hA hr
   go_upto_region 8 with(first|refine mG (C3.o _ S.x) ?_|(refine ah ((Rn (n:Nat) aW _).mono λe w'(N:_/\_/\_)=>(show∃k,e=cj (dF k 0)/\w.h.s<=k/\fD w' k (pR n)/\dS _ w' from⟨_,N.1,S.fr.size,N.2.1,N.2.2⟩)) λl W⟨f2,hm,hb⟩=>?_;have j9:=cz f2;replace S:=(S.cP hb).wM hm ae;clear f2)|(refine ah ((zR D l 0 0 _).mono λe w'(N:_/\_/\_)=>(show∃k,e=cj (dF k 0)/\w.h.s<=k/\mb w' k D l 0 0/\dS _ w' from⟨_,N.1,S.fr.size,N.2.1,N.2.2⟩)) λz W⟨f4,hm,hb⟩=>?_;have k1:=cz f4;replace S:=((S.cP hb).wM hm ae).EH (X':=CR z D l ⟨d1,pR n,0,0⟩) (λB w h=>⟨h.2,h.1.1,h.1.2,⟨(show(0:Nat)<18446744073709551616 by decide),(show(0:Nat)<18446744073709551616 by decide)⟩⟩) (dR z D l _);clear f4)|refine oM_ S 0 ae (o:=2) (m:=3) (dE u.iG) i6.o HA.o ?_|(refine(C6.o z l _ S.x).mono ?_;rintro e W ⟨B,r,q,rfl,⟨f,hB,hc,a8⟩,g4,g6,p,g5,R,F⟩;have HB:=cz hB;have HC:=cz hc;have i1:=cz g5;have e8:=cz (And.intro (show∀x∈C,eT x.1/\eT x.2 from by obtain⟨_,_,_,_,N,_⟩:=g6;exact N) (show C.n<=9223372036854775807 from by obtain⟨_,_,_,N,_⟩:=g6;exact N));have h5:=cz (dx g4);have h6:=cz (dx p);replace S:=(S.um F aw eQ (dR z D l s2) (λB h=>R) g4 ae ae).VB a8 p eQ eQ eQ eQ;clear hB hc g5;obtain⟨ra,rc,rfl⟩:=h5.o;obtain⟨qa,qc,rfl⟩:=h6.o)|refine fu λW S=>?_)
   obtain rfl:=HC.o;clear HC;by_cases g2:c=0
   case neg=>
    have g3:(c !=0)=cx:=fK.2 g2;rw[c8 g2] at s;obtain rfl:=s.o;clear g2
    go_wp2_with first|refine js 91 2 58 S 2 J.o (si rfl rfl) λW S=>?_|refine BZ E.o ?_|(refine mu ?_;refine Hid.o ?_)
    exact cz ⟨Ab _ _,S.x.1.1.dev,S.fr⟩
   subst g2;rw[cX aI] at s;obtain⟨k0,j3⟩:=dG f.l.n;obtain⟨AR,c2⟩:=fU (cM 5 (Cu (bX cw 0 0) (bX ra C.n rc) ⟨[],C,cy,f.l.n,0⟩));have h4:=cz (show prog.built 91 [(1,bX ra C.n rc),(3,bU cq f.l.n)]=cu AR by rw[c2];exact afC _ _ _ _ _);have g8:=cz c2;have C7:=cz λj6 q v b M W h2 h3=>aco j6 q v b M W h2 h3;clear c2;obtain⟨m0,d2⟩:=dG (pQ cx ps ([],cy));rw[d2] at s;have e4:=cz d2;clear d2 j3
   go_upto_region 14 with(first|(first|refine jl 62 97 61 S 0 1 (bX f.ee f.l.n f.cap) ?_|refine jl 71 97 70 S 1 1 (bX f.ee f.l.n f.cap) ?_)|refine lE (cells:=AR) ae h4.o ?_|refine oV S rfl rfl g8.o aky rfl nF (si rfl rfl) λW S=>?_|(refine ahv S λG W f3 S=>?_;have b8:=cz f3;clear f3)|(refine aj (C7.o cx ps _ G [] _ S.x.1.2.1 S.x.2.1) λW⟨hm,hb⟩=>?_;rw[e4.o] at hm|-;replace S:=S.marks (((lT.pl z D l s2).and (lT.cU _ _)).and (lT.sl _ _ _ _ _)) (((dR z D l s2).still (fP f.sv f.l)).still (fF 106 3 _ _ _ ae ae)) b8.o hb hm)|refine xD S 0 rfl 2 (Cu (bX cw 0 0) (bX ra C.n rc) ⟨[],C,m0.2,f.l.n,0⟩) (λj hj=>by have hj:j<5:=hj;rcases j with(_|_|_|_|_|j)<;>first|rfl) rh rfl rfl rfl tX λW S=>?_)
   have s:=cz (show aac C f.l.n (tL (ez f.l) s2 m0)=T from by rw[<-s.o,<-iv f.l];rfl);have b5:=cz (show(∀q∈m0.1,q.1<=4294967296)/\m0.1.n<=20000 from by
    have:=S7 cx 4294967296 ps ([],cy) (λq hq=>by have:=(i1.o q hq).1;omega) eQ;rw[e4.o] at this;exact⟨this.1,by have h2:=this.2;simp at h2;have:=d9.o.1;omega⟩)
   go_loopw [73] (λi wr=>∃(k:Nat)(s':Pl)(m:List jO×Bool),k<=f.l.n/\i=bU cq k/\Hid ((aac C f.l.n (tL ((ez f.l).drop k) s' m)=T/\(∀q∈m.1,q.1<=4294967296)/\m.1.n<=20000+73*k)/\St w (cu D) [] [⟨_,91,5,Cu (bX cw 0 0) (bX ra C.n rc) ⟨[],C,m.2,f.l.n,0⟩⟩,⟨_,99,2,dO f⟩,⟨_,143,7,k7 u⟩,⟨_,91,5,Cu (bX cw 0 0) (bX cw 0 0) zy⟩] [⟨141,2,bX ra C.n rc,C.n,_⟩] (λB w=>((CR z D l s' B w/\rU f.sv f.l B w)/\yQ 106 3 (bX qa ps.n qc) ps.n (iZ ps) B w)/\mkX G m.1 B w) wr)) (λi _=>f.l.n-(intOf i).m)
   case atStart=>exact⟨0,s2,m0,cN,ae,cz ⟨⟨s.o,b5.o.1,by have:=b5.o.2;omega⟩,S⟩⟩
   case round=>
    clear S s b5;obtain⟨k,s',m,hk,rfl,hS⟩:=hrel;by_cases a7:k<f.l.n
    . obtain⟨x,hx⟩:∃x,f.l[k]?=cu x:=⟨_,jG a7⟩;have S:=hS.o.2;have g:=hS.o.1.1;have V:=cz hS.o.1.2;have f9:(ez f.l).drop k=x.todu:: (ez f.l).drop (k+1):=by rw[drop_eq_getElem?_toList_append,mZ,hx];rfl
      rw[f9] at g;unfold tL at g;have d4:dD x.cO:=i2.o x.todu (lu (i:=k) (by show(ez f.l)[k]?=_;rw[mZ,hx];rfl));obtain⟨j2,k2,e9,_,b4⟩:=dQ S.x.1.1.2.sl.1;have O:f.ee=j2:=by unfold dY.sv at e9;cases e9;rfl
      obtain⟨bb,o9,f7⟩:=b4 cN;rw[f7] at O;have a3:=cz (show dO f 1=bX (s_ bb o9) f.l.n f.cap by show f.sv=_;unfold dY.sv;rw[O]);have a5:∀{B:cV}{W:cS},rU f.sv f.l B W->nD W bb (o9+k*11) x:=λh=>by
       have h:=h.sl;unfold dY.sv at h;rw[O] at h;exact h.at hx
      have C8:=cz λW X=>Kr z D l s' x.cO d4 0 W X;obtain⟨AX,c4⟩:=fU (cM 3 (dE x.cO));rw[dk c4] at C8;have I:=cz c4;have a2:=FE S.x.1.1.1.dev.1.nw d4 0;obtain⟨r3,j4⟩:=dG (fR s' x.cO 0);rw[j4] at C8 g a2;obtain⟨Q,l3,c3⟩:=r3;simp only at C8 g a2;have d8:=cz (And.intro a2.1 a2.2.1);have k3:(k:Int)<(f.l.n:Int):=cN;have k4:f.l.n<=9223372036854775807:=by
       obtain⟨_,_,_,_,h1,h2,_⟩:=S.x.1.1.2.sl.1;unfold maxLen at h2;omega
      clear a2 f9 d4 e9 b4 f7 O c4;by_cases z1:c3=42
      . subst z1;rw[c8 ae] at g;have H:=cz g;clear g
        go_wp2_with first|refine js 91 2 89 S 3 J.o (si rfl rfl) λW S=>?_|refine Ey S 1 ae 1 (v:=bX (s_ bb o9) f.l.n f.cap) a3.o ?_|refine Lt (nD.cO (a5 S.x.1.1.2) I.o) (vx I) ae fL ?_|(refine ah (C8.o _ S.x.1.1.1) λrv W⟨p,R,F⟩=>?_;have L:=cz (dx p);replace S:=S.um (X':=λB w=>((CR z D l Q B w/\rU f.sv f.l B w)/\yQ 106 3 (bX qa ps.n qc) ps.n (iZ ps) B w)/\mkX G m.1 B w) F aw eQ ((((dR z D l Q).still (fP f.sv f.l)).still (fF 106 3 _ _ _ ae ae)).still (tM G m.1)) (λB h=>⟨⟨⟨R,(fP f.sv f.l).fr h.1.1.2 F⟩,(fF 106 3 _ _ _ ae ae).fr h.1.2 F⟩,(tM G m.1).fr h.2 F⟩) p ae ae;obtain⟨va,vc,rfl⟩:=L.o)|refine BZ E.o ?_|(refine mu ?_;refine Hid.o ?_)
        rw[<-H.o];exact anQ
      rw[cX z1] at g;by_cases z2:c3=0
      case neg=>
       rw[c8 z2] at g;have H:=cz g;have z3:(c3==42)=cy:=by rw[lr];exact z1
       have z4:(c3 !=0)=cx:=fK.2 z2;clear g
       go_wp2_with first|refine js 91 2 93 S 3 J.o (si rfl rfl) λW S=>?_|refine Ey S 1 ae 1 (v:=bX (s_ bb o9) f.l.n f.cap) a3.o ?_|refine Lt (nD.cO (a5 S.x.1.1.2) I.o) (vx I) ae fL ?_|(refine ah (C8.o _ S.x.1.1.1) λrv W⟨p,R,F⟩=>?_;have L:=cz (dx p);replace S:=S.um (X':=λB w=>((CR z D l Q B w/\rU f.sv f.l B w)/\yQ 106 3 (bX qa ps.n qc) ps.n (iZ ps) B w)/\mkX G m.1 B w) F aw eQ ((((dR z D l Q).still (fP f.sv f.l)).still (fF 106 3 _ _ _ ae ae)).still (tM G m.1)) (λB h=>⟨⟨⟨R,(fP f.sv f.l).fr h.1.1.2 F⟩,(fF 106 3 _ _ _ ae ae).fr h.1.2 F⟩,(tM G m.1).fr h.2 F⟩) p ae ae;obtain⟨va,vc,rfl⟩:=L.o)|refine BZ E.o ?_|(refine mu ?_;refine Hid.o ?_)
       rw[<-H.o];exact anQ
      subst z2;rw[cX eQ] at g;obtain⟨m1,d3⟩:=dG (pQ cy l3 (m.1,cy));rw[show pQ cy l3 m=(m1.1,m.2||m1.2) from by rw[<-d3];exact EU cy l3 m.1 m.2] at g;have H:=cz g;have e5:=cz d3;have d6:=cz (show(∀q∈m1.1,q.1<=4294967296)/\m1.1.n<=20000+73*(k+1) from by
       have:=S7 cy 4294967296 l3 (m.1,cy) (λq hq=>by have:=(d8.o.1 q hq).1;omega) V.o.1;rw[e5.o] at this;exact⟨this.1,by have h2:=this.2;simp only at h2;have:=d8.o.2;have:=V.o.2;omega⟩)
      obtain⟨b1,f6⟩:=dG m1.2;have C7:=cz λv W h2 h3=>(show CP_ 88 #[.map (cu G),v,bZ cy] W λe w'=>e=cj (bZ b1)/\lW w' G m1.1/\jZ G W w' from by have:=C7.o cy l3 v G m.1 W h2 h3;rw[e5.o,f6] at this;exact this);rw[f6] at H;clear g d3;cases b1 with
      |false=>
       go_wp2_with first|refine Ey S 1 ae 1 (v:=bX (s_ bb o9) f.l.n f.cap) a3.o ?_|refine Lt (nD.cO (a5 S.x.1.1.2) I.o) (vx I) ae fL ?_|(refine ah (C8.o _ S.x.1.1.1) λrv W⟨p,R,F⟩=>?_;have L:=cz (dx p);replace S:=S.um (X':=λB w=>((CR z D l Q B w/\rU f.sv f.l B w)/\yQ 106 3 (bX qa ps.n qc) ps.n (iZ ps) B w)/\mkX G m.1 B w) F aw eQ ((((dR z D l Q).still (fP f.sv f.l)).still (fF 106 3 _ _ _ ae ae)).still (tM G m.1)) (λB h=>⟨⟨⟨R,(fP f.sv f.l).fr h.1.1.2 F⟩,(fF 106 3 _ _ _ ae ae).fr h.1.2 F⟩,(tM G m.1).fr h.2 F⟩) p ae ae;obtain⟨va,vc,rfl⟩:=L.o)|(refine aj (C7.o _ _ S.q0 S.x.2.1) λW⟨hm,hb⟩=>?_;replace S:=S.marks (((lT.pl z D l Q).and (lT.cU _ _)).and (lT.sl _ _ _ _ _)) (((dR z D l Q).still (fP f.sv f.l)).still (fF 106 3 _ _ _ ae ae)) b8.o hb hm)
       go_roundw
       case rel=>exact⟨k+1,Q,(m1.1,m.2||false),cN,by go_num,cz ⟨⟨H.o,d6.o⟩,by rw[Bool.or_false];exact S.KY⟩⟩
       case measure=>exact qN
      |true=>
       go_wp2_with first|refine Ey S 1 ae 1 (v:=bX (s_ bb o9) f.l.n f.cap) a3.o ?_|refine Lt (nD.cO (a5 S.x.1.1.2) I.o) (vx I) ae fL ?_|(refine ah (C8.o _ S.x.1.1.1) λrv W⟨p,R,F⟩=>?_;have L:=cz (dx p);replace S:=S.um (X':=λB w=>((CR z D l Q B w/\rU f.sv f.l B w)/\yQ 106 3 (bX qa ps.n qc) ps.n (iZ ps) B w)/\mkX G m.1 B w) F aw eQ ((((dR z D l Q).still (fP f.sv f.l)).still (fF 106 3 _ _ _ ae ae)).still (tM G m.1)) (λB h=>⟨⟨⟨R,(fP f.sv f.l).fr h.1.1.2 F⟩,(fF 106 3 _ _ _ ae ae).fr h.1.2 F⟩,(tM G m.1).fr h.2 F⟩) p ae ae;obtain⟨va,vc,rfl⟩:=L.o)|(refine aj (C7.o _ _ S.q0 S.x.2.1) λW⟨hm,hb⟩=>?_;replace S:=S.marks (((lT.pl z D l Q).and (lT.cU _ _)).and (lT.sl _ _ _ _ _)) (((dR z D l Q).still (fP f.sv f.l)).still (fF 106 3 _ _ _ ae ae)) b8.o hb hm)|refine xD S 0 rfl 2 (Cu (bX cw 0 0) (bX ra C.n rc) ⟨[],C,cx,f.l.n,0⟩) (λj hj=>by have hj:j<5:=hj;rcases j with(_|_|_|_|_|j)<;>first|rfl) rh rfl rfl rfl tX λW S=>?_
       go_roundw
       case rel=>exact⟨k+1,Q,(m1.1,m.2||true),cN,by go_num,cz ⟨⟨H.o,d6.o⟩,by rw[Bool.or_true];exact S.KY⟩⟩
       case measure=>exact qN
    . obtain rfl:k=f.l.n:=cN;have g:=hS.o.1.1;have V:=cz hS.o.1.2;rw[drop_eq_nil_of_le (by rw[iv];omega)] at g;have H:=cz g;have S:=cz (hS.o.2.Jn 3 1 ae ae);clear g;have S:=S.o
      go_upto_region 26 with(refine YL S (((dR z D l s').still (fP f.sv f.l)).still (fF 106 3 _ _ _ ae ae)) ae λRB W f5 S=>?_;have i3:=cz f5;clear f5)
      go_frame
      go_loopw [16] (λv wr=>∃(Sn Lf:List jO)(ao:Option Addr)(cp:Nat),v=bX ao Sn.n cp/\Hid (St w (cu D) [] [⟨_,91,5,Cu (bX cw 0 0) (bX ra C.n rc) ⟨[],C,m.2,f.l.n,(Sn.filter λq=>!q.2.2).n⟩⟩,⟨_,99,2,dO f⟩,⟨_,143,7,k7 u⟩,⟨_,91,5,Cu (bX cw 0 0) (bX cw 0 0) zy⟩] [⟨3,1,bX ao Sn.n cp,Sn.n,qI (Sn.map Prod.fst)⟩,⟨141,2,bX ra C.n rc,C.n,_⟩] (λB w=>((CR z D l s' B w/\rU f.sv f.l B w)/\yQ 106 3 (bX qa ps.n qc) ps.n (iZ ps) B w)/\rgX G RB m.1 Sn Lf B w) wr)) (λ_ wr=>wr.rangeLeft G RB)
      case atStart=>exact⟨[],m.1,cw,0,ae,cz S⟩
      case round=>
       clear S;obtain⟨Sn,Lf,ao,cp,rfl,hS⟩:=hrel;have S:=hS.o;have b7:=cz S.x.2.1.left_eq;have h8:=cz S.x.2.1.perm;have g1:Sn.n<=100000000:=by have h1:=h8.o.length_eq;have h2:=V.o.2;have h3:(ez f.l).n<=1000000:=d9.o.2;rw[jv] at h1;rw[iv] at h3;omega
       have hX:=cz (((lT.pl z D l s').and (lT.cU f.sv f.l)).and (lT.sl 106 3 (bX qa ps.n qc) ps.n (iZ ps)));have hs:=cz (((dR z D l s').still (fP f.sv f.l)).still (fF 106 3 (bX qa ps.n qc) ps.n (iZ ps) ae ae))
       go_upto_region 27 with(refine acq S hX.o hs.o i3.o ae (λhl R=>?_) (λq L' W a7 S c6=>?_))
       . obtain⟨Z,hZ⟩:=dG ((dN (Sn.map Prod.fst)).mergeSort (λx y=>decide (x<=y)));have HZ:=cz (show Z.Perm (dN (Sn.map Prod.fst)) from hZ▸mergeSort_perm _ _);have i8:=cz (show∀x∈Z,0<=x/\x<=4294967296 from λx hx=>by
          have:=HZ.o.mem_iff.1 hx;unfold dN at this;simp only[gT] at this;obtain⟨_,⟨q,hq,rfl⟩,rfl⟩:=this;have:=V.o.1 q (R.mem_iff.1 hq);omega)
         have i9:=cz (show Z.n<=100000000 by have:=HZ.o.length_eq;simp[dN] at this;omega);have j1:=cz (show oG Z=oG (m.1.map λq=>((q.1:Nat):Int)) from YM (HZ.o.trans (by unfold dN;rw[wU];exact R.map _)));have Y:=cz (show(Sn.filter λq=>!q.2.2).n=(m.1.filter λq=>!q.2.2).n from(R.filter _).length_eq);have CS:=cz λ(W:cS)(v:c7)(h:W.ownsRow w.h.s 3 1 v Sn.n (qI (Sn.map Prod.fst)))=>(show CP_ 90 #[v] W λe w'=>e=cj (cg #[])/\w'.ownsRow w.h.s 3 1 v Sn.n (Z.map (Value.int cq))/\W.grownBy w' v.ownBlock from by
          rw[acr] at h;have:=afB h (by simp[dN];omega);rw[hZ] at this;exact this)
         obtain⟨sr,a9⟩:=dG (iE (oG Z));have CO:=cz λ(W:cS)(v:c7)(h:W.ownsRow w.h.s 3 1 v Sn.n (Z.map (Value.int cq)))=>(show CP_ 91 #[v] W λe w'=>∃v',e=cj v'/\w'.ownsRow W.h.s 141 2 v' sr.n (iP sr)/\dS W w' from by
          have:=Xx v Z W (ahw h i8.o i9.o);rw[a9] at this;exact this)
         obtain⟨cn,a1⟩:=dG ((Sn.filter λq=>!q.2.2).n);rw[a1] at S Y;have i4:=cz a9;have i5:=cz (show(s'.dv,((⟨sr,C,m.2,f.l.n,cn⟩:GJ),(0:Int)))=T from by
          rw[<-H.o,<-a9,j1.o,Y.o];rfl)
         clear a9
         go_wp2_with first|refine js 91 2 122 S 3 g7.o (si rfl rfl) λW S=>?_|(refine aj (CS.o _ _ S.o0) λW⟨ho,hg⟩=>?_;replace S:=S.sorted hg ho)|(refine ah (CO.o _ _ S.o0) λrv W⟨ho,hb⟩=>?_;have h7:=cz (dx ho);replace S:=S.iw hb ho ae ae;obtain⟨va,vc,rfl⟩:=h7.o;obtain⟨AF,f1⟩:=fU (cM 5 (Cu (bX va sr.n vc) (bX ra C.n rc) ⟨sr,C,m.2,f.l.n,cn⟩));have g7:=cz f1;clear f1)|refine xD S 0 rfl 0 (Cu (bX va sr.n vc) (bX ra C.n rc) ⟨sr,C,m.2,f.l.n,cn⟩) (λj hj=>by have hj:j<5:=hj;rcases j with(_|_|_|_|_|j)<;>first|rfl) rh rfl rfl rfl ah3 λW S=>?_|(refine mu ?_;refine Hid.o ?_)|refine fO ?_
         rw[<-i5.o];exact cz ⟨_,⟨ae,ae⟩,⟨_,_,ae,⟨S.o0,S.o2⟩,by have N:=S.o0;rw[<-i4.o] at N|-;exact mT.sl N,uL S.o2 e8.o.1 e8.o.2⟩,S.x.1.1.1.dev,S.fr⟩
       . obtain⟨AQ,b9⟩:=fU (cM 4 (Br q.2));have e9:Aa q.2=bV AQ:=by rw[b9];rfl
         rw[e9] at c6|-;have d5:=cz b9;have d7:=cz c6;have e3:=cz a7;have j8:=b7;obtain⟨ob,a8⟩:=dG q.2.2;have b3:=cz (show Br q.2 3=bZ ob by unfold Br;rw[cX kM,a8]);obtain⟨cn,a1⟩:=dG ((Sn.filter λq=>!q.2.2).n);rw[a1] at S;have j7:cn<=100000000:=by rw[<-a1];exact ik (FR _ _) g1
         have Y:=cz (show((Sn++[q]).filter λq=>!q.2.2).n=if ob=cx then cn else cn+1 by rw[filter_append,jv,a1];cases ob<;>simp[a8]);have a4:=cz (show(Sn++[q]).n=Sn.n+1 by simp);have e6:=cz (show qI ((Sn++[q]).map Prod.fst)=qI (Sn.map Prod.fst)++[bU cq q.1] by simp[qI]);clear e9 b9 c6 a7;cases ob with
         |true=>
          go_wp2_with first|refine Of d7.o ae ?_|refine oV S rfl rfl d5.o aab rfl nF (JO _) λW S=>?_|refine mF S cq (dN [q.1]) qq uW cN cN rfl rfl rfl λW S=>?_|refine tE S 0 rfl 0 rfl rfl rfl rfl X1 (Hp _ _) CU xY λg9 c9 W S=>?_|refine Ey S 1 ae 3 (v:=bZ cx) b3.o ?_
          have b6:=cz S.x.2.1.left_eq;go_roundw
          case rel=>exact⟨Sn++[q],L',s_ g9 0,c9,(by rw[a4.o]),cz (by have S:=S.pop.pop;rw[a4.o,e6.o,Y.o,c8 ae];exact S)⟩
          case measure=>rw[b6.o,b7.o];exact e3.o
         |false=>
          go_wp2_with first|refine jl 114 3 113 S 2 4 (bU cq cn) ?_|refine Of d7.o ae ?_|refine oV S rfl rfl d5.o aab rfl nF (JO _) λW S=>?_|refine mF S cq (dN [q.1]) qq uW cN cN rfl rfl rfl λW S=>?_|refine tE S 0 rfl 0 rfl rfl rfl rfl X1 (Hp _ _) CU xY λg9 c9 W S=>?_|refine Ey S 1 ae 3 (v:=bZ cy) b3.o ?_|refine xD S 2 rfl 4 (Cu (bX cw 0 0) (bX ra C.n rc) ⟨[],C,m.2,f.l.n,cn+1⟩) (λj hj=>by have hj:j<5:=hj;rcases j with(_|_|_|_|_|j)<;>first|rfl|omega) rh rfl rfl rfl Dy λW S=>?_
          have b6:=cz S.x.2.1.left_eq;go_roundw
          case rel=>exact⟨Sn++[q],L',s_ g9 0,c9,(by rw[a4.o];try simp),cz (by have S:=S.pop.pop;rw[a4.o,e6.o,Y.o,cX eQ];exact S)⟩
          case measure=>rw[b6.o,b7.o];exact e3.o
end
def V9(K D:Nat)(y:GT)(c:fi y.b)(w:cS)(h:fJ w K D y):
 CP_ 12 #[bW (cu ⟨K,0,cw⟩)] w λe w'=>∃r,e=cj r/\w'.ownsRow w.h.s 52 4 r (Cs y).n (N8 (Cs y))/\dS w w':=by obtain⟨G,g,M,b,e,-⟩:=h;have a:=SW K D G M g y.s (by rw[show g.b.t=y.b from gQ GT.b e];exact c) w b;rw[e] at a;exact a
def V'(K D:Nat)(y:GT)(w:cS)(h:fJ w K D y):CP_ 18 #[bW (cu ⟨K,0,cw⟩)] w λe w'=>e=cj (bU cq (fI y.s.mp:Nat))/\w=w':=by obtain⟨G,g,M,a,e,-⟩:=h;exact RY K G D M g y.s w a
section
theorem akA(S:St w0 d l L O X w){K:Act->cS->Prop}{t:dW}{by':Nat}(k:xm P t e z by')(f:gZ e=cy)(i:lQ e=cy)(h:∀g W,St w0 d l L (⟨e,z,bX (cu ⟨g,0,cw⟩) 0 0,0,[]⟩::O) X W->K (a.put (cu dst) (bX (cu ⟨g,0,cw⟩) 0 0)) W):
 Oper.wp P ⟨cu dst,.buildSlice t 0 #[],t2,p,af,cw⟩ a w K Q:=by
 obtain⟨m,v,j,s,r⟩:=k;obtain⟨u,c,n,o,q⟩:=oH j;have b:(Instr.buildSlice t 0 #[]).run P w=.ok (bX (s_ w.h.s 0) 0 0) (w.alloc (.cells #[] e)):=by simp[Instr.buildSlice,yI m,sizeOf,typeInfo,c,Instr.fill,newRow];grind
 unfold Oper.wp execOp;simp only[lx,map_toArray,map_nil,b,nX];exact h _ _ (S.made (cap:=0) eQ (gG _) f i)
end
section
attribute[local irreducible]wpList Code.wp Calls Oper.wp wpAnyH
theorem aja(K D:Nat)(x:GT)(l:Gy x)(o:JK)(A:gJ)(L:A=cM 6 (opF o))(f:o.name.s<=140737488355328)(u:o.toN.s<=140737488355328)(H:o.data.n<=140737488351232)(w:cS)(h:fJ w K D x)(T:dW)(z:∀W,Fr (cu D) [K] w W->dg W T 1 (bX o.da o.data.n o.dc) o.data.n (eo o.data))(p:∀y∈o.data,y<256):
 CP_ 11 #[bW (cu ⟨K,0,cw⟩),bV A] w λe w'=>(∃B s,e=cj (cg #[bV B,bU cq (sh x o.toZ7).2.2])/\B=cM 128 (di s))/\fJ w' K D (sh x o.toZ7).1/\Fr (cu D) [K] w w':=by
 have S:=St.start w (cu D) [K] (tQ K D x) h.x;obtain⟨⟨d,b,v,n,t,N⟩,I,J,Q,R⟩:=o;simp only at f u H z p|-;obtain⟨⟨y,O,c⟩,a⟩:∃T,sh x ⟨d,b,v,n,t,N⟩=T:=⟨_,ae⟩;have U:=cz L;have F:=cz p;have G:=cz z;have q:d=1∨d=3∨(d≠0/\d≠1/\d≠2/\d≠3/\d≠4/\d≠5/\d≠6/\d≠7/\d≠8/\d≠9)∨d=0∨d=2∨d=4∨d=5∨d=6∨d=7∨d=8∨d=9:=cN;rw[a];simp only;clear L h z p;rcases q with rfl|rfl|⟨n0,n1,n2,n3,n4,n5,n6,n7,n8,n9⟩|rfl|rfl|rfl|rfl|rfl|rfl|rfl|rfl;have C:=cz λba bc W(X:fJ W K D x)E=>FH K D x l b f n t ba bc W X E;rw[show dX x (mM b n t)=(y,c) from xI (gQ Prod.fst a:) (gQ (λr=>r.2.2) a:)] at C;clear a;go_enter func11,ntmps11;go_upto_region 5 with(first|refine jl 7 3 6 S 1 0 (bU cq 1) ?_|refine fu λW S=>?_);refine eR S dC [⟨w.h.s,41,6,opF ⟨⟨1,b,v,n,t,N⟩,I,J,Q,R⟩⟩] Cz λW S=>?_;refine ij 0 (bV zeroCells36) ae (yU ae Rt) ?_;refine dh 1 _ ?_;refine dh 2 (dF w.h.s 1) ?_;refine dh 3 (bY b) ?_;refine dh 4 (dF w.h.s 3) ?_;refine dh 5 (bU cq n) ?_;refine dh 7 (dF w.h.s 4) ?_;refine dh 8 (bX I t.n J) ?_;refine kK 6 λK m=>?_;refine akA S B7 ae ae λg W S=>?_;refine gy m ?_;refine kK 9 λK m=>?_;refine ad4 S 0 ae ae ae (G.o _ S.fr) B7 (AT _) CU xY λG G W S=>?_;refine gy m ?_;refine kK 10 λK m=>?_;go_wp2_with fail;refine aj (C.o _ _ _ S.x.at ⟨by have E:=S.q0;simp only[pM,pL] at E;exact E,F.o⟩) λW⟨j,i⟩=>?_;replace S:=S.Au j i eQ jH jH;refine gy m ?_;refine kK 11 λK m=>?_;refine km S 0 ae ae ae vW Dx (jP _) λW S=>?_;refine gy m ?_;refine dh 12 _ ?_;refine qG ?_;rotate_left;have C:=cz λW(X:fJ W K D x)=>ID K D x l b f n W X;rw[show vr b n x=(y,O,c) from a] at C;clear a;go_enter func11,ntmps11;rotate_left;obtain⟨rfl,-,rfl⟩:x=y/\fN=O/\(0:Int)=c:=by unfold sh at a;grind
 have e:∀k:Int,d≠k->(d==k)=cy:=λk h=>by rw[lr];exact h
 have V:=e 0 n0;have Y:=e 1 n1;have Z:=e 2 n2;have F:=e 3 n3;have F:=e 4 n4;have F:=e 5 n5;have F:=e 6 n6;have F:=e 7 n7;have F:=e 8 n8;have F:=e 9 n9;clear a e n0 n1 n2 n3 n4 n5 n6 n7 n8 n9;go_enter func11,ntmps11;rotate_left;have C:=cz λW(X:fJ W K D x)=>D3 K D x l b f n W X;rw[show dX x (my b n)=(y,c) from xI (gQ Prod.fst a:) (gQ (λr=>r.2.2) a:)] at C;clear a;go_enter func11,ntmps11;rotate_left;have C:=cz λW(X:fJ W K D x)=>SJ K D x l b f n W X;rw[show dX x (rH b n)=(y,c) from xI (gQ Prod.fst a:) (gQ (λr=>r.2.2) a:)] at C;clear a;go_enter func11,ntmps11;rotate_left;have C:=cz λW(X:fJ W K D x)=>SH K D x l b f W X;rw[show dX x (vl b)=(y,c) from xI (gQ Prod.fst a:) (gQ (λr=>r.2.2) a:)] at C;clear a;go_enter func11,ntmps11;rotate_left;have C:=cz λW(X:fJ W K D x)=>Pg K D x l b v f u W X;rw[show dX x (qL b v)=(y,c) from xI (gQ Prod.fst a:) (gQ (λr=>r.2.2) a:)] at C;clear a;go_enter func11,ntmps11;rotate_left;have C:=cz λW(X:fJ W K D x)=>K8 K D x l b f W X;rw[show dX x (lY b)=(y,c) from xI (gQ Prod.fst a:) (gQ (λr=>r.2.2) a:)] at C;clear a;go_enter func11,ntmps11;rotate_left;have C:=cz λW(X:fJ W K D x)=>SI K D x l b f W X;rw[show dX x (uC b)=(y,c) from xI (gQ Prod.fst a:) (gQ (λr=>r.2.2) a:)] at C;clear a;go_enter func11,ntmps11;rotate_left;have C:=cz λW(X:fJ W K D x)=>La K D x l b f W X;rw[show dX x (lf b)=(y,c) from xI (gQ Prod.fst a:) (gQ (λr=>r.2.2) a:)] at C;clear a;go_enter func11,ntmps11;rotate_left;have C:=cz λW(X:fJ W K D x)=>IF K D x l W X;rw[show dX x gD=(y,c) from xI (gQ Prod.fst a:) (gQ (λr=>r.2.2) a:)] at C;clear a;go_enter func11,ntmps11
 all_goals
  go_wp2_with first|(first|refine jl 7 3 6 S 1 0 (bU cq 3) ?_|refine jl 43 9 42 S 1 1 (bY b) ?_|refine jl 45 3 44 S 1 3 (bU cq n) ?_|refine jl 7 3 6 S 1 0 (bU cq 0) ?_|refine jl 13 9 12 S 1 1 (bY b) ?_|refine jl 15 3 14 S 1 3 (bU cq n) ?_|refine jl 7 3 6 S 1 0 (bU cq 2) ?_|refine jl 35 9 34 S 1 1 (bY b) ?_|refine jl 37 3 36 S 1 3 (bU cq n) ?_|refine jl 7 3 6 S 1 0 (bU cq 4) ?_|refine jl 54 9 53 S 1 1 (bY b) ?_|refine jl 7 3 6 S 1 0 (bU cq 5) ?_|refine jl 61 9 60 S 1 1 (bY b) ?_|refine jl 63 9 62 S 1 2 (bY v) ?_|refine jl 7 3 6 S 1 0 (bU cq 6) ?_|refine jl 70 9 69 S 1 1 (bY b) ?_|refine jl 7 3 6 S 1 0 (bU cq 7) ?_|refine jl 77 9 76 S 1 1 (bY b) ?_|refine jl 7 3 6 S 1 0 (bU cq 8) ?_|refine jl 84 9 83 S 1 1 (bY b) ?_)|(refine ah (C.o _ S.x.at) λB W⟨M,j,i⟩=>?_;have z:=cz M;replace S:=S.Au j i eQ jH bj;clear M)|refine jl 7 3 6 S 1 0 (bU cq d) ?_|(refine aj (C.o _ S.x.at) λW⟨j,i⟩=>?_;replace S:=S.Au j i eQ jH bj)|(refine aj (C.o _ S.x.at) λW⟨j,i⟩=>?_;replace S:=S.Au j i eQ jH bj)|(refine aj (C.o _ S.x.at) λW⟨j,i⟩=>?_;replace S:=S.Au j i eQ jH bj)|(refine aj (C.o _ S.x.at) λW⟨j,i⟩=>?_;replace S:=S.Au j i eQ jH bj)|(refine aj (C.o _ S.x.at) λW⟨j,i⟩=>?_;replace S:=S.Au j i eQ jH bj)|(refine aj (C.o _ S.x.at) λW⟨j,i⟩=>?_;replace S:=S.Au j i eQ jH bj)|(refine aj (C.o _ S.x.at) λW⟨j,i⟩=>?_;replace S:=S.Au j i eQ jH bj)|refine jl 7 3 6 S 1 0 (bU cq 9) ?_|(refine aj (C.o _ S.x.at) λW⟨j,i⟩=>?_;replace S:=S.Au j i eQ jH bj)|refine fu λW S=>?_|refine fO ?_|(refine mu ?_;exact⟨⟨_,_,ae,ae⟩,S.x.at,S.fr⟩)
end
def acs{x:GT}(d:C' x y)(R:Ring y.s.dv.nw y.ub)(f:Fit y)(C:y.s.dv.df=cy)(N:∀s∈y.b.cU,tf s):∃v r,vG y.s.dv=(v,(r,0))/\Ct r=cx/\Wr (λ_=>False) y.s.dv v:=by
 have G:=d.ql;have X:=G.n;obtain⟨M,o,U⟩:=QI R C cN;obtain⟨text,ats,c,L,F⟩:=d.laid;rw[<-d.b] at c;rw[<-d.n] at L;have E:(eZ y.s.dv).1.nw=y.s.dv.nw:=funext λa=>o.nw id;obtain⟨v,O,pv,Z,dv⟩:=QJ (u:=⟨(eZ y.s.dv).1,pR (y.s.dv.n:Nat),0,0⟩) L G.map G.n c N (G.VY f) U o.n (λa _=>congrFun E a)
 let S:cQ->Prop:=λp=>p∈y.dI∨∃s∈y.b.cU,∃k,pt y.s.dv.nw s.cO k≠cY/\pt y.s.dv.nw s.cO k=p
 have hS:∀p q,S p->S q->p.1=q.1->p=q:=by
  rintro p q (h1|⟨s,h1,k,h2,rfl⟩) (h3|⟨t,h3,l,h4,rfl⟩) e
  . exact Ae λQ=>by
     have:=List.pairwise_map.1 G.nd;obtain⟨i,H,rfl⟩:=yk h1;obtain⟨j,I,rfl⟩:=yk h3;have:=I6.1 this;rcases Nat.lt_trichotomy i j with g|g|g
     . exact this i j H I g e
     . subst g;exact Q ae
     . exact this j i I H g e.symm
  . exact absurd ⟨t,l,h3,h4,e.symm⟩ (G.hd p h1).2.1
  . exact absurd ⟨s,k,h1,h2,e⟩ (G.hd q h3).2.1
  . exact(G.ti.wy h1 h3 h2 h4 e).2
 have K:=JN hS cx y.dI ([],cy) ⟨ae,by simp⟩ λq z=>.inl z;obtain⟨w,b,ws,mk,T,A⟩:=QN (D:=y.s.dv.nw) (n:=y.s.dv.n) hS y.b.cU v _ dv (pv.nn.trans E) (pv.wr.n.trans o.n) (λt c=>⟨G.rd t c,λk J=>⟨(G.ti.bt c J).1,.inr ⟨t,c,k,J,ae⟩⟩⟩) K.1;have V:vG y.s.dv=(w.dv,(⟨iE (oG (b.1.map λm=>((m.1:Nat):Int))),kF y.s.mp 2,b.2,y.b.cU.n,(b.1.filter λm=>!m.2.2).n⟩,0)):=by
  unfold vG;rw[cX (by rw[C];decide),M];unfold QL;rw[cX eQ,cX (by simp only[kL];rw[d.ub.2.2.2.1,<-d.n,o.n];simp),cX (by simp only[kL];rw[d.ub.2.2.1];decide)];simp only[kL];rw[o.n,O];unfold aaa;rw[cX eQ];simp only;rw[ws];simp only[ne_eq,yu,mS]
 refine⟨w.dv,_,V,?_,o.trans (pv.wr.trans T.wr)⟩
 . unfold Ct;have:iE (oG (b.1.map λm=>((m.1:Nat):Int)))=kF y.s.mp 2:=by
    unfold kF;refine tq λa Y=>?_;unfold oG;rw[decide_eq_decide];have:((a:Int)∈b.1.map λm=>((m.1:Nat):Int))↔a∈b.1.map Prod.fst:=by
     simp only[gT,Int.natCast_inj]
    rw[this,A,K.2];constructor
    . intro h;have:y.s.mp a=2:=by
       rcases h with(h|⟨q,z,rfl⟩)|⟨t,c,k,B,rfl⟩
       . simp at h
       . exact(G.hd q z).1
       . exact G.tk _ ⟨t,k,c,B,ae⟩
      exact⟨by have:=(G.map a).2.1 cN;omega,this⟩
    . rintro⟨_,h⟩;rcases G.ac a h with⟨t,k,c,B,e⟩|⟨q,z,e⟩
      . exact .inr ⟨t,c,k,B,e⟩
      . exact .inl (.inr ⟨q,z,e⟩)
   simp only[this,mk.no];simp
section
variable {x:GT}
structure YN(w w':cS)(K D:Nat)(x:GT):Prop where
 bel:dS w w'
 aln:fJ w' K D x
 dev:∀k∈oT w' D,w.h.s<=k
 new:w.h.s<=K
theorem St.YO(S:St w0 cw l L O X w)(h:YN w w' K D x)(i:∀r∈L,r.t≠109/\r.t≠106)(j:∀o∈O,o.e≠109/\o.e≠106):St w0 cw l L O (MU w0.h.s D (Lb K D x)) w':=by have a:=S.cP h.bel;refine a.Vx (uz (tQ K D x)) ⟨h.aln.xB λb d=>?_,λk c=>⟨ik S.fr.size (h.dev k c),λf=>ug _ (pK (S.lt k f) (h.dev k c))⟩⟩;rcases iu.1 d with⟨r,g,rfl⟩|⟨o,ho,e⟩;rw[cL.ty (a.row r g).1];grind;rw[uR (a.own o ho).1 e];grind
theorem St.Wb(S:St w0 none l L O (MU w0.heap.size D X) w)(f:Fr (some D) l2 w w')(p:∀k∈l2,k∈l∨w0.heap.size<=k)(q:lN (some D) X')(s:X' (eM L O) w'):St w0 none l L O (MU w0.heap.size D X') w':=by
 have n:=S.x.2;refine⟨⟨f.os.trans S.fr.os,f.tape.trans S.fr.tape,f.output.trans S.fr.output,ik S.fr.size f.size,λk d j=>?_,aJ,aJ⟩,λr g=>⟨cL.frX (S.row r g).1 f (λi=>(n _ i).2 (iu.2 (.inl ⟨r,g,ae⟩))) (.inl (S.row r g).2.1),(S.row r g).2.1,.inr aJ⟩,
  λo ho=>⟨BQ (S.own o ho).1 f (.inr (S.own o ho).2.2) (S.own o ho).2.1,(S.own o ho).2⟩,S.lo,S.nd,⟨s,λk d=>?_⟩,uz q⟩
 have e:=S.fr.block k d j;rw[<-e];refine f.block k (pK d S.fr.size) ?_;rintro⟨t,m,hc⟩;rw[wC e] at m;rcases hc with⟨u,a,b,c⟩|⟨a,b⟩;grind;refine j ⟨t,m,.inr ⟨a,(p k b).resolve_right cN⟩⟩;rcases f.dev D ae k d with h|h;grind;exact⟨ik S.fr.size h,λi=>ug _ (pK (S.lt k i) h)⟩
theorem St.wQ(S:St w0 cw l L O (MU w0.h.s D X) w)(h:fJ w' K D x)(f:Fr (cu D) l2 w w')(d:∀k∈l2,k∈l∨w0.h.s<=k)(i:∀r∈L,r.t≠109/\r.t≠106)(j:∀o∈O,o.e≠109/\o.e≠106):St w0 cw l L O (MU w0.h.s D (Lb K D x)) w':=by have a:=S.Wb f d (gj D x.s.dv) h.dev;refine a.Vx (uz (tQ K D x)) ⟨h.xB λb c=>?_,a.x.2⟩;rcases iu.1 c with⟨r,g,rfl⟩|⟨o,ho,e⟩;rw[cL.ty (a.row r g).1];grind;rw[uR (a.own o ho).1 e];grind
theorem dg.iW(h:dg w0 T sz v n xs)(a:dS w0 w)(f:Fr (some D) l2 w W)(c:∀k∈oT w D,w0.heap.size<=k)(d:∀k∈l2,w0.heap.size<=k):dg W T sz v n xs:=
 h.cP ⟨f.os.trans a.os,f.tape.trans a.tape,f.output.trans a.output,ik a.size f.size,λk b=>(f.block k (pK b a.size) (by
  grind[PM])).trans (a.block k b)⟩
end
section
attribute[local irreducible]wpList Code.wp Calls Oper.wp wpAnyH
theorem Wc(n:Int)(L:eT n)(w:cS):
 CP_ 10 #[bU cq n] w λe w'=>if 64<=n/\n<=400 then ∃K D,e=cj (cg #[bW (cu ⟨K,0,cw⟩),bW (cu ⟨D,0,cw⟩)])/\YN w w' K D (jJ (kA n.m)).1 else e=cj (cg #[bW cw,bW cw])/\dS w w':=by
 by_cases c:64<=n/\n<=400
 . (simp only[c8 c];have t:J4 n=n.m:=by unfold J4;omega);(have s:=cz λW=>age n L W;rw[t] at s;have v:=Oc (n:=n.m) cN;have i:=cz λD W a=>VD D (kA n.m) (by show(0:Nat)<=_;omega) W a;rw[v.1] at i;have S:=qP w;obtain⟨x,B⟩:=dG ((jJ (kA n.m)).1);obtain⟨d,b⟩:=dG (kA n.m);have C:=cz λ(w:cS)(D r q:Nat)(h:zK w D (yH n.m r q) (λ_=>fN) (λ_=>fN))=>(show iQ w D d/\∀k∈oT w D,k=D∨k=r∨k=q from b▸aft h);rw[B] at i|-;rw[b] at i;have y:decide (n<(64:Int))=cy:=by rw[QS];omega);(have F:decide ((400:Int)<n)=cy:=by rw[QS];omega);clear B b v t c;go_enter func10,ntmps10;go_upto_region 4 with(first|(go_at_call 37;refine(s.o _).mono ?_;rintro e W ⟨D,r,q,rfl,⟨b,I⟩,G,o,m⟩;obtain⟨b,f⟩:=C.o _ _ _ _ b;have p:=S.fr.size;have l:=λk g=>S.lt k g;replace S:=(S.cP I).Vx (uz (n:=w.h.s) (gj D d)) ⟨b,λk g=>⟨by rcases f k g with rfl|rfl|rfl<;>omega,λM=>by grind⟩⟩;clear b f G o m p l));go_wp2_with (first|(go_at_call 38;refine ah (i.o D _ S.x.1) λu W⟨A,J⟩=>?_;obtain⟨K,rfl,H,z⟩:=A.1 ae;have E:=cz (ik S.fr.size H);replace S:=St.wQ S z J eQ eQ eQ;clear A z));go_ret2;exact⟨K,D,ae,S.b,S.x.1.at,λk g=>(S.x.2 k g).1,E.o⟩
 . simp only[cX c];go_enter func10,ntmps10;by_cases j:n<64
   . have y:decide (n<(64:Int))=cx:=gI j;clear c;go_wp2;go_ret2;exact⟨ae,gK _ _⟩
   . (have y:decide (n<(64:Int))=cy:=jC j;have F:decide ((400:Int)<n)=cx:=by rw[decide_eq_true_iff];omega);clear c j;go_wp2;go_ret2;exact⟨ae,gK _ _⟩
def IV(D:Nat)(d:Dv)(w:cS)(a:iQ w D d):
 CP_ 20 #[bW (cu ⟨D,0,cw⟩)] w λe w'=>e=cj (bZ (decide ((vG d).2.2=0)&&Ct (vG d).2.1))/\iQ w' D (vG d).1/\Fr (cu D) [] w w':=by
 have S:=St.start w (cu D) [] (gj D d) a;have n:=cz λW(X:iQ W D d)=>V8 D d W X;obtain⟨T,t⟩:=dG (vG d);rw[t] at n|-;obtain⟨z,r,c⟩:=T;simp only at n|-;clear t;go_enter func20,ntmps20;go_upto_region 2 with(first|(with_reducible first|refine jb 3 91 S zeroValue91 aht λW S=>?_|refine js 91 3 8 S 0 o.o (si rfl rfl) λW S=>?_)|(go_at_call 35;refine ah (n.o _ S.x) λA W⟨⟨G,J,s,⟨p,q⟩,l,m⟩,u,v⟩=>?_;have o:=cz s;have k:=cz (And.intro (show(∀x∈r.wP,eT x.1/\eT x.2)/\r.wP.n<=9223372036854775807 from by obtain⟨_,_,_,a,b,_⟩:=l;exact⟨b,a⟩) (show(∀x∈r.taken,eT x.1/\eT x.2)/\r.taken.n<=9223372036854775807 from by obtain⟨_,_,_,a,b,_⟩:=m;exact⟨b,a⟩));have i:=cz (dx p);have j:=cz (dx q);replace S:=((S.call v aw eQ (gj D z) (λB h=>u)).Lu (base:=w.h.s) (by simp[eM]) p ae ae).Lu (base:=w.h.s) (by simp[eM]) q ae ae;clear u v s l m p q;obtain⟨E,F,rfl⟩:=i.o;obtain⟨H,I,rfl⟩:=j.o;clear i j));by_cases hc:c=0
 . (have C:(c==(0:Int))=cx:=by rw[wX];exact hc);have y:=cz λW l m=>QO _ _ r A o.o W l m;have f:decide (c=0)=cx:=gI hc;have g:=cz f;clear hc f;go_wp2_with (first|(with_reducible refine jj 13 91 3 S 0 o.o ?_)|(go_at_call 36;refine je S (y.o _ (S.x.1.2.1.S6 k.o.1.1 k.o.1.2) (S.x.2.1.S6 k.o.2.1 k.o.2.2)) λW S=>?_));go_ret;exact⟨by simp[g.o],S.x.1.1,S.fr⟩
 . (have C:(c==(0:Int))=cy:=by rw[lr];exact hc);have f:decide (c=0)=cy:=jC hc;have g:=cz f;clear hc f;go_wp2;go_ret;exact⟨by simp[g.o],S.x.1.1,S.fr⟩
end
def S8(next:Nat):Nat->List (Nat×fM)->List du->Bool
 |_,_,[]=>cx
 |last,seen,x::r=>fC x&&decide (last<x.id)&&decide (x.id<next)&& !seen.any (λc=>decide (c.1=(dK x).1/\c.2.data.t=(dK x).2.data.t))&&S8 next x.id (seen++[dK x]) r
theorem aad(next:Nat):∀(l:List du)(e:Nat)(d:List (Nat×fM)),oE next e d l=S8 next e d l
 | [],_,_=>rfl
 |x::r,e,d=>by
  unfold oE S8;rw[aad next r];have:DY d (dK x)=d.any (λc=>decide (c.1=(dK x).1/\c.2.data.t=(dK x).2.data.t)):=by
   rw[wR,Be,any_eq_true];constructor
   . grind
   . rintro⟨⟨a,b⟩,g,f⟩;obtain⟨h,i⟩:=mj f
     grind[ByteArray.ext,Array.ext']
  rw[this]
def ajb(next:Nat)(l:List du):Bool:=
 if 281474976710655<next∨32<l.n then cy else
 S8 next 0 [] l&&l.all λx=>kz l x&&jN l x
theorem akB:nt=ajb:=by grind[nt,ajb,aad]
def ajc(n:Nat)(top:List cQ)(h g:Pl×(cV×List cQ×Int)):ej×(List (Int×Int)×(List cQ×Int)):=
 match lK h.2.1 with
 |none=>(tJ,([],([],91)))
 |some nl=>if ajb nl.1 nl.2=cy then(tJ,([],([],91))) else
  match pH (n:Nat) g.2.1 with
  |none=>(tJ,([],([],91)))
  |some zs=>(⟨nl.1,nl.2⟩,(zs,((top++h.2.2.1)++g.2.2.1,0)))
theorem akC:ml3=ajc:=by funext n t h g;grind[ml3,ajc,akB]
def ajd(a:Pl×(cV×List cQ×Int)):Pl×(ej×(List (Int×Int)×(List cQ×Int))):=
 let h:=j9 a.1 (a.2.1.take 20)
 if h.2.2.2≠0 then(h.1,(tJ,([],([],CH h.2.2.2)))) else
 let g:=j9 h.1 (a.2.1.drop 20)
 if g.2.2.2≠0 then(g.1,(tJ,([],([],CH g.2.2.2)))) else(g.1,ajc g.1.dv.n a.2.2.1 h g)
theorem akD:ml1=ajd:=by grind[ml1,ml2,ajd,akC]
def aae(s:Pl)(iG:cQ):Pl×(ej×(List (Int×Int)×(List cQ×Int))):=
 let b:=eP s iG 40
 if b.2.2.2≠0 then(b.1,(tJ,([],([],CH b.2.2.2)))) else ajd b
theorem afD:jX=aae:=by grind[jX,aae,akD]
def YP:fM:=⟨#[118]⟩
def al1:GT:=(jJ (kA 64)).1
def al2:GT×Int:=dX al1 (my YP 4)
def al3:GT×Int:=dX al2.1 (mM YP 1 [97])
def al4:GT×Int:=dX al3.1 gD
def aje(d:Dv):GT×Int:=
 if d.df=cx then(vt d,42) else
 let u:=eZ d
 if u.2.isSome=cy then(vt u.1,91) else
 if(u.2.getD lR).gx≠u.1.n then(vt u.1,91) else
 if(u.2.getD lR).len≠40 then(vt u.1,91) else
 let r:=aae ⟨u.1,pR u.1.n,0,0⟩ (u.2.getD lR).iG
 if r.2.2.2.2≠0 then(vt r.1.dv,r.2.2.2.2) else
 if 281474976710652<(u.2.getD lR).kJ∨281474976710652<r.2.1.next∨281474976710652<(u.2.getD lR).cR then(vt r.1.dv,192) else
 (⟨r.2.1,r.2.2.2.1,u.2.getD lR,⟨r.1.dv,zq r.1.mp (nW r.2.2.1),iR (u.2.getD lR).cR,(u.2.getD lR).cR⟩⟩,0)
theorem akE:lZ=aje:=by grind[lZ,ye,Bk,aje,afD]
def ajf(r:Pl×(ej×(List (Int×Int)×(List cQ×Int)))):Dv×(GJ×Int):=
 if r.2.2.2.2≠0 then(r.1.dv,(zy,r.2.2.2.2)) else
 let w:=tL r.2.1.cU r.1 (pQ cx r.2.2.2.1 ([],cy))
 if w.2.2≠0 then(w.1.dv,(zy,w.2.2)) else
 (w.1.dv,(⟨iE (oG (w.2.1.1.map λm=>((m.1:Nat):Int))),r.2.2.1,w.2.1.2,r.2.1.cU.n,(w.2.1.1.filter λm=>!m.2.2).n⟩,0))
def afE(d:Dv):Dv×(GJ×Int):=
 if d.df=cx then(d,(zy,42)) else
 let u:=eZ d
 if u.2.isSome=cy then(u.1,(zy,91)) else
 if(u.2.getD lR).gx≠u.1.n then(u.1,(zy,91)) else
 if(u.2.getD lR).len≠40 then(u.1,(zy,91)) else
 ajf (aae ⟨u.1,pR u.1.n,0,0⟩ (u.2.getD lR).iG)
theorem ajg:vG=afE:=by funext d;unfold vG QL afE;rw[afD];rfl
def al5:GT×Int:=aje (lU al4.1.s.dv [])
def al6:GT×(cV×Int):=vr YP 1 al5.1
def al7:Dv×(GJ×Int):=afE al6.1.s.dv
def afF:(((jJ (kA 64)).2=0/\al2.2=0)/\al3.2=0/\al4.2=0)/\(al5.2=0/\(Cs al5.1).n=1)/\(al6.2.2=0/\al6.2.1.getD 0 0=97)/\al7.2.2=0/\Ct al7.2.1=cx/\al7.2.1.blocks=3:=by decide+kernel
def acu:∃(b c d f a g:GT)(bs:cV)(i:Dv)(r:GJ),jJ (kA 64)=(b,0)/\dX b (my YP 4)=(c,0)/\dX c (mM YP 1 [97])=(d,0)/\dX d gD=(f,0)/\lZ (lU f.s.dv [])=(a,0)/\(Cs a).n=1/\vr YP 1 a=(g,(bs,0))/\bs.getD 0 0=97/\vG g.s.dv=(i,(r,0))/\Ct r=cx/\r.blocks=3:=by
 obtain⟨⟨⟨j,k⟩,l,m⟩,⟨n,o⟩,⟨q,s⟩,t,u,v⟩:=afF;have e:∀p:GT×Int,p.2=0->p=(p.1,0):=λp h=>xI ae h;refine⟨al1,al2.1,al3.1,al4.1,al5.1,al6.1,al6.2.1,al7.1,al7.2.1,e _ j,?_,?_,?_,?_,o,?_,s,?_,u,v⟩;show al2=_;exact e _ k
 show al3=_;exact e _ l
 show al4=_;exact e _ m
 rw[akE];show al5=_;exact e _ n
 show al6=_;exact xI ae (xI ae q)
 rw[ajg];show al7=_;exact xI ae (xI ae t)
def afG(h:bs.getD 0 0=97):di bs 0=bU .u8 97:=by unfold di;rw[h];rfl
def ahx(S:St w0 d l L O X W)(f:Nat×Nat):St w0 d l L O X (W.alloc (.cells #[bU .u8 97] 5 f))/\lM (W.alloc (.cells #[bU .u8 97] 5 f)) 5 (bX (cu ⟨W.h.s,0,cw⟩) [97].n 1) [97]:=
 ⟨S.cP ((gK _ _).alloc (eN _) _),⟨ae,_,_,ae,eN _,by decide,λ_=>⟨_,0,_,_,ae,(SZ W _).1,λj u h=>by
  rcases j with _|j
  . exact h
  . simp at h⟩⟩,by simp⟩
section
attribute[local irreducible]wpList Code.wp Calls Oper.wp wpAnyH
def acv(w:cS):sW 9 #[] w (bZ cx):=by
 obtain⟨L,d,M,i,p,y6,bs,d7,r,f1,f2,f3,f4,f5,f6,f7,f8,f9,fa,fb⟩:=acu;have G:tj L 20000:=by have:=NF (kA 64);rw[f1] at this;exact this.le an5
 have H:tj d 40000:=by have:=IG G ((Qv G YP 4).le cN);rw[f2] at this;exact this
 have I:qE d.s.dv/\gU d.s.cR->tj M 60000:=λh=>by have:=IG H ((VG H h.1 h.2 YP 1 [97]).le cN);rw[f3] at this;exact this
 have b4:qE d.s.dv/\gU d.s.cR->tj i 80000:=λh=>by have:=IG (I h) (VH (I h));rw[f4] at this;exact this
 have b5:qE d.s.dv/\gU d.s.cR->qE i.s.dv->tj p 100004:=λh y=>by have:=Gz (lU i.s.dv []) (Oa y []);rw[f5] at this;exact this.le (by have:=(b4 h).ops;show i.s.dv.ops+20004<=_;omega)
 have J:YP.s<=140737488355328:=by decide
 have N:=cz λW=>(show CP_ 10 #[bU cq 64] W λe w'=>∃K D,e=cj (cg #[dF K 0,dF D 0])/\YN W w' K D L from by
  refine(Wc 64 aW W).mono λe w' h=>?_;rw[c8 kM,show((64:Int)).m=64 from ae,f1] at h;exact h)
 have V:=cz λK D W(X:fJ W K D L)=>(by have:=D3 K D L (G.ok cN) YP J 4 W X;rw[f2] at this;exact this:CP_ 33 #[dF K 0,bY YP,bU cq 4] W λe w'=>K7 W w' K D (d,0) e);have Y:=cz λK D ba bc W(X:fJ W K D d)h9=>(by have:=FH K D d (H.ok cN) YP J 1 [97] ba bc W X h9;rw[f3] at this;exact this:CP_ 34 #[dF K 0,bY YP,bU cq 1,bX ba 1 bc] W λe w'=>K7 W w' K D (M,0) e);have R:=cz λK D W(X:fJ W K D M)(g:qE d.s.dv/\gU d.s.cR)=>(by have:=IF K D M ((I g).ok cN) W X;rw[f4] at this;exact this:CP_ 15 #[dF K 0] W λe w'=>K7 W w' K D (i,0) e);have T:=cz λD W(X:iQ W D i.s.dv)(g:qE d.s.dv/\gU d.s.cR)=>KK D i.s.dv (by have:=(b4 g).ops;omega) (bX cw 0 0) [] [] W X ⟨ae,cw,0,ae,eN _,gG _,λh=>absurd h (ug _)⟩;have U:=cz λD W(X:iQ W D (lU i.s.dv []))=>(by have:=Cn D _ W X;rw[f5] at this;exact this:CP_ 17 #[dF D 0] W λe w'=>∃v,e=cj (cg #[v,bU cq 0])/\IE w' W.h.s D p 0 v/\Fr (cu D) [] W w');have O:=cz λK D W(X:fJ W K D p)(g:qE d.s.dv/\gU d.s.cR)(y:qE i.s.dv)=>(by have:=V9 K D p (b5 g y).text W X;rw[f6] at this;exact this:CP_ 12 #[dF K 0] W λe w'=>∃r,e=cj r/\w'.ownsRow W.h.s 52 4 r 1 (N8 (Cs p))/\dS W w');have Q:=cz λK D W(X:fJ W K D p)(g:qE d.s.dv/\gU d.s.cR)(y:qE i.s.dv)=>(by have:=ID K D p ((b5 g y).ok cN) YP J 1 W X;rw[f7] at this;exact this:CP_ 13 #[dF K 0,bY YP,bU cq 1] W λe w'=>∃B,e=cj (cg #[bV B,bU cq 0])/\B=cM 128 (di bs)/\fJ w' K D y6/\Fr (cu D) [] W w');have Z:=cz λD W(X:iQ W D y6.s.dv)=>(by have:=V8 D _ W X;rw[f9] at this;exact this:CP_ 35 #[dF D 0] W λe w'=>∃A,e=cj (cg #[bV A,bU cq 0])/\S5 w' W.h.s A r/\iQ w' D d7/\Fr (cu D) [] W w');have HF:=cz f8;have HC:=cz fa;have a1:=cz fb;have S:=qP w;clear f1 f2 f3 f4 f5 f6 f7 f8 f9 fa fb G H I b4 b5 J;have kc:=λ(w:cS)(C:gJ)(n c:Nat)=>Lib.run_convert_bytes_const (P:=prog) w 22 5 C n c oS yN;go_enter func9,ntmps9;go_wp2_with (first|refine jj 73 91 7 S 0 HA.o ?_|refine jb 7 91 S zeroValue91 aht λW S=>?_|refine js 91 7 59 S 0 HA.o (si rfl rfl) λW S=>?_|(refine(N.o _).mono ?_;rintro e W ⟨K,D,rfl,hm⟩;have HK:=cz (ik S.fr.size hm.new);replace S:=S.YO hm eQ eQ;clear hm)|(refine aj (V.o K D _ S.x.1.at) λW⟨l,f⟩=>?_;replace S:=S.wQ l f (λk m=>.inr (fS.1 m▸HK.o)) eQ eQ;have j:=cz l.facts)|(go_at_call 34;have F:=ahx S (1,2);clear S;go_must (refine aj (Y.o K D _ _ _ F.1.x.1.at F.2) λW⟨l,f⟩=>?_;have S:=F.1.wQ l f (λk m=>.inr (fS.1 m▸HK.o)) eQ eQ;clear F))|(go_at_call 15;refine aj (R.o K D _ S.x.1.at j.o) λW⟨l,f⟩=>?_;replace S:=S.wQ l f (λk m=>.inr (fS.1 m▸HK.o)) eQ eQ;have s:=cz l.facts.1)|(refine aj (T.o D _ S.x.1.at.dev j.o) λW⟨z,f⟩=>?_;replace S:=S.Wb f eQ (gj D _) z;clear z)|(refine ah (U.o D _ S.x.1) λu W⟨hg,f⟩=>?_;obtain⟨K2,rfl,hK,hP⟩:=hg.1 ae;replace S:=S.wQ hP f eQ eQ eQ;clear hg hP)|(refine ah (O.o K2 D _ S.x.1.at j.o s.o) λrr W⟨ho,hb⟩=>?_;obtain⟨a9,z9,rfl⟩:=dx ho;replace S:=S.cP hb)|(refine ah (Q.o K2 D _ S.x.1.at j.o s.o) λB W⟨hB,l,f⟩=>?_;have HB:=cz hB;replace S:=S.wQ l f eQ eQ eQ;clear hB)|(refine ah (Z.o D _ S.x.1.at.dev) λA W⟨⟨rv,tv,hA,⟨o1,o2⟩,h1,g⟩,z,f⟩=>?_;have HA:=cz hA;have E:=cz (And.intro (show(∀x∈r.wP,eT x.1/\eT x.2)/\r.wP.n<=9223372036854775807 from by obtain⟨_,_,_,a,b,_⟩:=h1;exact⟨b,a⟩) (show(∀x∈r.taken,eT x.1/\eT x.2)/\r.taken.n<=9223372036854775807 from by obtain⟨_,_,_,a,b,_⟩:=g;exact⟨b,a⟩));have q:=cz (dx o1);have t:=cz (dx o2);have o:=λk m=>S.lt k m;replace S:=((S.Wb f eQ (gj D d7) z).Lu o o1 ae ae).Lu o o2 ae ae;clear z hA h1 g o1 o2 o;obtain⟨ra,rc,rfl⟩:=q.o;obtain⟨ta,tc,rfl⟩:=t.o;clear q t)|(first|refine Ey S 1 ae 0 (v:=bU .u8 97) (afG HF.o) ?_|refine Ey S 0 ae 4 (v:=bU cq 3) (show Value.int cq r.blocks=_ by rw[a1.o];rfl) ?_)|(refine aj (QO _ _ r _ HA.o _ (S.x.1.2.1.S6 E.o.1.1 E.o.1.2) (S.x.2.1.S6 E.o.2.1 E.o.2.2)) λW hb=>?_;rw[HC.o];replace S:=S.cP hb)|refine fu λW S=>?_);go_ret;exact az
end