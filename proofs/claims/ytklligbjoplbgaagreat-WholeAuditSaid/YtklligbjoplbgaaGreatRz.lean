/- WholeAudit holds of the given program. No conditions. -/
import Derived.Test.YtklligbjoplbgaaGreatRag
import Derived.Test.YtklligbjoplbgaaGreatRows
import Derived.Deep.Strs
set_option linter.all false
open List renaming length->List.n
open String renaming length->String.n
open Array renaming size->Array.s,toList->Array.t
open ByteArray renaming size->ByteArray.s
open Go.TypeInfo renaming size->Go.TypeInfo.s
open Go.RowKit.Below renaming size->Go.RowKit.Below.s
open Option renaming toList->Option.t,some->cu,none->cw
open Go.World renaming heap->Go.World.h
open Int renaming toNat->Int.m
open Go.Value renaming int->bU,pointer->bW,slice->bX,bool->bZ,tuple->cg
open Go.Ending renaming returned->cj
open Go.IntKind renaming i64->cq
open Bool renaming true->cx,false->cy
namespace Go.Proofs.YtklligbjoplbgaaGreat
set_option maxRecDepth 100000
set_option maxHeartbeats 64000000
open Go.RowKit Lib List Nat _root_.Go.Proofs.Tryz Go.Shelf
variable {b:ej}{r:ej×Int}{dI:Bool}{sn iK zz:fM}{d:Dv}{x z:GT}{ats l l2 text:cV}{X:cV->cS->Prop}{tk:List (Int×Int)}{O:List O4}{jS iW:List cQ}{L:List R4}{c:List du}{cs:List c7}{N a base fuel i k n:Nat}{spare:Nat->Bool}{B E:Nat->cV}{A C:Nat->Prop}{s:Pl}{t:Pl×(cQ×(List cQ×Int))}{q cO top:cQ}{v y:du}{H α:Type}{u:qZ}{w:cS}
structure akG(x:JK):Prop where
 name:x.name.s<=140737488355328
 toN:x.toN.s<=140737488355328
 data:x.data.n<=140737488351232
 eS:x.eS.n<=140737488351232
 n:eT x.n
 byte:∀y∈x.data,y<256
structure afH(w:cS)(v:c7)(l:List JK):Prop where
 row:∃T,dg w T 6 v l.n (opC l)
 dat:∀x∈l,∃T,dg w T 1 (bX x.da x.data.n x.dc) x.data.n (eo x.data)
 kep:∀x∈l,∃T,dg w T 1 (bX x.ka x.eS.n x.kc) x.eS.n (Ah x.eS)
 op:∀x∈l,akG x
theorem afI(v u:c7)(l m:List (Int×Int))(w:cS)(L:fj w v l)(K:fj w u m):
 sW 22 #[v,u] w (bZ (decide (l=m))):=by
 obtain⟨M,cap,rfl,E,_,hc⟩:=L;obtain⟨O,D,rfl,B,_,n⟩:=K;have F:=cz hc;clear hc;have t:=cz n;clear n;by_cases d:l.n=m.n
 . (have q:=cz d;have I:((l.n:Int)!=(m.n:Int))=cy:=by simp[d]);clear d;go_enter func22,ntmps22;go_wp2_with (fail)
   go_loopw [13] (λi wr=>∃(k:Nat),k<=l.n/\i=bU cq k/\Hid (∀j(z:j<k)(r:j<l.n)(s:j<m.n),l[j]=m[j])/\dS w wr)
    (λi _=>l.n-(intOf i).m)
   exact an1;obtain⟨k,V,rfl,C,hbel⟩:=hrel;by_cases f:k<l.n
   . (have e:k<m.n:=by have:=q.o;omega);obtain⟨b,o,rfl,y,c⟩:=F.o (by intro h;simp[h] at f);obtain⟨N,o',rfl,g,a⟩:=t.out (by intro h;simp[h] at e);obtain⟨Q,R⟩:=tS y c hbel f;obtain⟨T,U⟩:=tS g a hbel e;clear c a;have G:(k:Int)<(l.n:Int):=cN;have H:(k:Int)<(m.n:Int):=cN;by_cases p:l[k]=m[k]
     . have x:=cz p;have J:=QZ l[k].1 l[k].2 m[k].1 m[k].2 cy (by rw[p];simp);clear p;go_wp2_with (go_quiet (fail));go_roundw;(case rel=>refine⟨k+1,cN,by go_num,λj z r s=>?_,by refine below_drewN ?_ _;go_grown⟩;by_cases A:j=k;subst A;exact x.o;exact C.o j cN r s);case measure=>exact qN
     . have x:=cz p;have J:=QZ l[k].1 l[k].2 m[k].1 m[k].2 cx (by
        grind)
       clear p;go_wp2_with (go_quiet (fail));go_ret;exact⟨uM (by rw[jC (JX f e x.o)]),by refine below_drewN ?_ _;go_grown⟩
   . go_wp2;go_ret;exact anC
 . (have q:=cz d;have I:((l.n:Int)!=(m.n:Int))=cx:=by rw[fK];omega);clear d;go_enter func22,ntmps22;go_wp2;go_ret;exact anP
def Ta(K D:Nat)(x:GT)(l:Gy x)(w:cS)(h:fJ w K D x):
 CP_ 23 #[bW (cu ⟨K,0,cw⟩)] w λe w'=>∃d o n,e=cj (bW (cu ⟨d,0,cw⟩))/\dZ w' d o D n x.s/\dS w w':=by
 obtain⟨G,g,M,h,a,c⟩:=h;clear c;obtain⟨s,r⟩:=dG x.s;rw[r] at h a|-;have b:g.b.t=x.b:=by rw[<-a];rfl
 have q:g.dI=x.dI:=by rw[<-a];rfl
 have S:=St.start w (cu D) [] (kg K G g D M s) h.x;have t:=cz λW(X:dZ W G g D M s)=>DZ G D M g s (by rw[b];exact l.text.fit) (by rw[q];exact ik l.qD kM) W X;clear a r b q l;go_enter func23,ntmps23;go_wp2_with (first|((with_reducible refine aQ_ ?_);refine zw (cL.cell S.x.2 (i:=0) cN) ?_)|(go_at_call 58;refine(t.o _ S.x.at.Hz).mono ?_;rintro e W ⟨d,o,n,rfl,f,k,j,p,a,b⟩;have m:=cz (And.intro p b);clear f k j a p b));go_ret;exact⟨_,_,_,ae,m.o.1,m.o.2⟩
section
variable {w0 w':cS}{D K K':Nat}{x':GT}
theorem St.aaf(S:St w0 cw l L O (MU w0.h.s D X) w)(h:fJ w' K D x)(d:fJ w' K' D x')(f:Fr (cu D) l2 w w')(g:∀k∈l2,k∈l∨w0.h.s<=k)(j:∀r∈L,r.t≠109/\r.t≠106)(m:∀o∈O,o.e≠109/\o.e≠106):St w0 cw l L O (MU w0.h.s D (λB w=>Lb K D x B w/\Lb K' D x' B w)) w':=by
 have a:=S.Wb f g (gj D x.s.dv) h.dev;have c:∀b∈eM L O,iy w' b≠cu 109/\iy w' b≠cu 106:=λb c=>by rcases iu.1 c with⟨r,i,rfl⟩|⟨o,ho,e⟩;rw[cL.ty (a.row r i).1];grind;rw[uR (a.own o ho).1 e];grind
 exact a.Vx (uz ((tQ K D x).and (tQ K' D x'))) ⟨⟨h.xB c,d.xB c⟩,a.x.2⟩
end
structure tN(x:GT)(d:Dv):Prop where
 n:d.n=x.s.dv.n
 nw:∀a,x.s.mp a≠1->d.nw a=x.s.dv.nw a
def Wr.agree(w:Wr (λa=>x.s.mp a=1) x.s.dv d):tN x d:=⟨w.n,λ_ h=>w.nw h⟩
theorem tN.pt{x:GT}{d:Dv}(G:Good x)(w:tN x d){s:du}(a:s∈x.b.cU):(∀k,pt d.nw s.cO k=pt x.s.dv.nw s.cO k)/\(∀k,pt x.s.dv.nw s.cO k≠cY->d.nw (pt x.s.dv.nw s.cO k).1=x.s.dv.nw (pt x.s.dv.nw s.cO k).1):=by
 have k:∀k,Go.Proofs.YtklligbjoplbgaaGreat.pt x.s.dv.nw s.cO k≠cY->d.nw (Go.Proofs.YtklligbjoplbgaaGreat.pt x.s.dv.nw s.cO k).1=x.s.dv.nw (Go.Proofs.YtklligbjoplbgaaGreat.pt x.s.dv.nw s.cO k).1:=λk h=>w.nw _ (by
  have:=G.tk _ ⟨s,k,a,h,ae⟩;omega)
 exact⟨((G.rd s a).congr k).2,k⟩
theorem Good.agree(G:Good x)(w:tN x d):Good (asked x d):=by
 have e:∀s∈x.b.cU,∀k,pt d.nw s.cO k=pt x.s.dv.nw s.cO k:=λs b=>(w.pt G b).1;have c:=λa=>Re.GC (M:=(·∈x.b.cU)) e a;refine⟨G.inc,G.qD,G.zt,G.ti.GC e,λs b=>?_,?_,?_,λa h=>G.tk a ((c a).1 h),λa h=>(G.ac a h).imp (c a).2 id,λq h=>?_,G.nd,G.st,G.nx⟩;show Rd d.nw d.n s.cO;rw[w.n];exact((G.rd s b).congr (w.pt G b).2).1
 show sU d.n x.s.mp;rw[w.n];exact G.map
 show 64<=d.n/\d.n<=1024;rw[w.n];exact G.n
 have:=G.hd q h;simp_all[asked]
theorem Laid.congr{D:Nat->cV}{st:Nat}{dI:List cQ}(L:Laid D n st q text tk dI ats)(e:∀a∈ats,E a=D a):Laid E n st q text tk dI ats:=by obtain⟨⟨y,z,l,m,A,d,f,g,i,j,k,o,B,C,p,r,s,t,u,b,c,v⟩,w,x⟩:=L;exact⟨⟨y,z,l,m,A,d,f,g,i,j,k,o,by grind,by grind,p,r,s.congr λa h=>e a (b a h),t.congr λa h=>e a (c a h),u,b,c,v⟩,w,x⟩
theorem Good.low(G:Good x)(h:a<4):x.s.mp a≠1:=λe=>by have:=(G.map a).2.1 cN;omega
def C'.agree{y:GT}(D:C' x y)(w:tN y d):C' x (asked y d):=by have G:=D.ql;obtain⟨text,ats,c,L,f⟩:=D.laid;have j:=λt=>mod_lt t (show 4>0 by decide);refine⟨G.agree w,D.b,w.n.trans D.n,⟨text,ats,c,L.congr λa g=>w.nw a λe=>?_,f⟩,D.ub,(w.nw _ (G.low (j _))).trans D.slot,λa h b=>(w.nw a (G.low h)).trans (D.ring a h b),D.cR,D.dI,D.free,D.two⟩;obtain⟨q,i,rfl⟩:=gT.1 (L.perm.mem_iff.2 g);have:=(G.hd q i).1;omega
def Ring.agree(G:Good x)(R:Ring x.s.dv.nw u)(w:tN x d):Ring d.nw u:=
 ⟨(w.nw _ (G.low (mod_lt _ kM))).trans R.here,R.right,R.parts,λi b a v c=>by rw[w.nw i (G.low b)] at c;exact R.iW i b a v c⟩
def Fit.agree(F:Fit x)(w:tN x d):Fit (asked x d):=F.dev w.n
theorem YQ(D:C' x z)(R:Ring z.s.dv.nw z.ub)(F:Fit z)(o:z.s.dv.df=cy)(t:∀s∈z.b.cU,tf s)(E:z.ub.kJ<=281474976710600/\z.b.next<=281474976710600/\z.ub.cR<=281474976710600):
 ∃d,lZ z.s.dv=(asked z d,0)/\Wr (λ_=>False) z.s.dv d/\d.df=cy:=by
 have G:=D.ql;have B:=G.n;obtain⟨r,c,A⟩:=QI R o cN;obtain⟨text,ats,l,L,k⟩:=D.laid;rw[<-D.b] at l;rw[<-D.n] at L;have p:(eZ z.s.dv).1.nw=z.s.dv.nw:=funext λa=>c.nw id;obtain⟨v,w,pv,j,dv⟩:=QJ (u:=⟨(eZ z.s.dv).1,pR (z.s.dv.n:Nat),0,0⟩) L G.map G.n l t (G.VY F) A c.n (λa _=>congrFun p a);refine⟨v.dv,?_,c.trans pv.wr,dv⟩;have q:zq (pR (z.s.dv.n:Nat)) (nW (kF z.s.mp 2))=z.s.mp:=by
  funext a;have H:∀i:Int,i∈nW (kF z.s.mp 2)↔∃b:Nat,(b:Int)=i/\b<1024/\z.s.mp b=2:=λi=>by
   have m:∀n:Fin 4096,n∈kN (kF z.s.mp 2)↔n.val<1024/\z.s.mp n.val=2:=λn=>by
    grind[kF,Pp,qV,LH]
   unfold nW;rw[gT];exact⟨λ⟨n,h,e⟩=>⟨n.val,e,(m n).1 h⟩,λ⟨b,e,h1,h2⟩=>⟨⟨b,cN⟩,(m _).2 ⟨h1,h2⟩,e⟩⟩
  have f:=G.map a;have g:=D.free a;have y:pR (z.s.dv.n:Nat) a=if 4<=a/\a<z.s.dv.n then 1 else 0:=by grind[pR]
  rw[QK _ _ _ (λi C=>by
   grind) (λb=>by grind[pR]),y]
  grind
 unfold lZ;rw[cX jH,r];unfold ye;rw[cX eQ,cX (by simp only[kL];rw[D.ub.2.2.2.1,<-D.n,c.n];simp),cX (by simp only[kL];rw[D.ub.2.2.1];decide)];simp only[kL];rw[c.n,w];unfold Bk;rw[cX eQ,cX jH];refine xI ?_ ae;have j:v.mp=pR (z.s.dv.n:Nat):=j;simp only[j,q];show GT.mk z.b z.dI z.ub ⟨v.dv,z.s.mp,iR z.ub.cR,z.ub.cR⟩=⟨z.b,z.dI,z.ub,⟨v.dv,z.s.mp,z.s.cR,z.s.base⟩⟩;rw[D.cR.1,D.cR.2,D.ub.2.1]
def Had(x:GT)(q:cQ):Prop:=q≠cY/\∃s∈x.b.cU,∃k,pt x.s.dv.nw s.cO k=q
structure mr(C:Nat->Prop)(x:GT):Prop where
 mp:∀a,C a->x.s.mp a≠1
 had:∀q,Had x q->C q.1->q.2.1<=x.s.base
def pq(b c:List du):Prop:=∀t∈c,t.cO=cY∨∃u∈b,u.cO=t.cO
theorem mr.leave(K:mr C x)(g:s.dv.nw=x.s.dv.nw)(f:s.base=x.s.base)(e:wO x.s.base jS x.s.mp s.mp)(m:pq x.b.cU b.cU)(j:∀q∈jS,Had x q):mr C {x with b:=b,s:=s}:=by refine⟨λa d h=>?_,λq l hc=>?_⟩;rcases e.one a h with h|⟨_,q,c,rfl,h2⟩;exact K.mp a d h;have:=K.had q (j q c) d;omega;(show q.2.1<=s.base;rw[f];obtain⟨i,t,n,k,c⟩:=l;have c:pt s.dv.nw t.cO k=q:=c;rw[g] at c;rcases m t n with h2|⟨u,hu,h2⟩);grind[EP];rw[<-h2] at c;exact K.had q ⟨i,u,hu,k,c⟩ hc
def mr.agree(G:Good x)(K:mr C x)(w:tN x d):mr C (asked x d):=
 ⟨K.mp,λq ⟨h0,s,hs,k,e⟩ hc=>K.had q ⟨h0,s,hs,k,((w.pt G hs).1 k).symm.trans e⟩ hc⟩
theorem mr.call(G:Good x)(K:mr C x){k:GT->GT×Int}(w:Wr (λa=>x.s.mp a=1) x.s.dv (dX x k).1.s.dv)(h:(k x).2=0->mr C (k x).1):mr C (dX x k).1:=by
 unfold dX at w|-;split;exact K
 next hd=>
 rw[cX hd] at w;unfold r9 at w|-;split;next h1=>rw[c8 h1] at w;exact K.agree G w.agree
 grind
theorem JP(l:List du)(i:Nat):(dH l i).cO=cY∨∃u∈l,u.cO=(dH l i).cO:=by by_cases h:i<l.n;exact .inr ⟨_,(kr h).1,ae⟩;left;unfold dH;simp[getD,getElem?_eq_none (Nat.le_of_not_lt h)];rfl
theorem pq.refl(b:List du):pq b b:=λt h=>.inr ⟨t,h,ae⟩
theorem pq.set{b:List du}(h:pq b c)(g:y.cO=cY∨∃u∈b,u.cO=y.cO):pq b (c.set i y):=λt a=>by rcases vB a with h1|rfl;exact h t h1;exact g
theorem pq.snoc{b:List du}(h:pq b c)(g:y.cO=cY∨∃u∈b,u.cO=y.cO):pq b (c++[y]):=λt a=>by rcases gH.1 a with h1|h1;exact h t h1;grind
theorem pq.erase{b:List du}(h:pq b c)(i:Nat):pq b (c.eraseIdx i):=λt a=>h t (Bz a)
def Tb(b:ej)(cT:fM)(n:Int):pq b.cU (iO b cT n).1.cU:=by
 unfold iO u';repeat' split
 all_goals first|exact .refl _|exact(pq.refl _).snoc (.inl rfl)
def Wd(b:ej)(f t:fM):pq b.cU (jA b f t).1.cU:=by
 unfold jA u';repeat' split
 all_goals first|exact .refl _|exact(pq.refl _).snoc (JP _ _)
def YR(b:ej)(cT:fM)(st:Nat):pq b.cU (iH b cT st).1.cU:=by
 unfold iH;repeat' split
 all_goals first|exact .refl _|(refine pq.set (pq.snoc (.refl _) ?_) ?_<;>exact JP _ _)
theorem YS(b:ej)(cT:fM):pq b.cU (jI b cT).1.cU:=by grind[jI,JP,pq]
def Pj(b:ej)(cT:fM):pq b.cU (fx b cT).1.cU:=by
 unfold fx;repeat' split
 all_goals first|exact .refl _|exact(pq.refl _).erase _
theorem mr.same(K:mr C x)(a:pq x.b.cU b.cU):mr C (rG x b):=K.leave (s:=x.s) (jS:=[]) ae ae (.nil _ _) a eQ
theorem mr.put(K:mr C x)(a:pq x.b.cU r.1.cU):mr C (pI x r).1:=by unfold pI;split;exact K;exact K.same a
theorem mr.left(G:Good x)(K:mr C x){s:du}(g:pq x.b.cU b.cU)(f:s∈x.b.cU)(h:(oM b s x).2=0):mr C (oM b s x).1:=by
 have p:=zr x.s s.cO (gr x.b.cU s.id);have a:=G.all f;unfold oM vm at*;generalize fR x.s s.cO (gr x.b.cU s.id)=r at*;split at h;grind[vF]
 next h1=>
 rw[cX h1];have a:=a cN;have i:∀q∈r.2.1,q.1<1024:=λq c=>by obtain⟨j,k,e,_⟩:=(a q).1 c;have:=(G.rd s f).2.1 k;rw[e] at this;rcases this with h|h;grind;have:=G.n;omega
 have d:=rf r.2.1 r.1 i;rw[p.1.ba,p.2.1] at d;exact K.leave (s:=dM r.1 r.2.1) (by rw[d.2.1];exact p.1.nn) d.2.2.1 d.1 g λq c=>by grind[Had]
theorem Og{b:ej}{cT:fM}{c:Int}(e:nK b.cU cT=(cw,c)):c≠0:=by grind[nK]
def mr.ah5(G:Good x)(K:mr C x)(r:ej×(du×Int))(a:pq x.b.cU r.1.cU)(b:r.2.2=0->r.2.1∈x.b.cU)(h:(oB x r).2=0):mr C (oB x r).1:=by unfold oB at*;split at h;omega;next h1=>rw[cX h1];exact K.left G a (b cN) h
theorem afJ(G:Good x)(cT:fM)(h:(jI x.b cT).2.2=0):(jI x.b cT).2.1∈x.b.cU:=by grind[jI,Og,dH,qM]
theorem Wf(G:Good x)(cT:fM)(h:(fx x.b cT).2.2=0):(fx x.b cT).2.1∈x.b.cU:=by unfold fx at*;rcases e:nK x.b.cU cT with⟨_|i,c⟩;grind[Og];rw[e] at h;simp only at h|-;split at h;simp at h;next h1=>rw[cX h1];exact(qM G e).2.1
theorem Oh(G:Good x)(K:mr C x)(cT:fM)(h:(ud x (eu x.b cT)).2=0):mr C (ud x (eu x.b cT)).1:=by
 unfold ud at h|-;by_cases o:(eu x.b cT).2.2=131;grind;by_cases f:(eu x.b cT).2.2≠0;grind;rw[cX o,cX f];clear h o;unfold eu at f|-;split at f;simp at f
 next vs hfs=>
 split at f;simp at f
 next i hi=>
 split at f;simp at f
 next hcl=>
 split at f;simp at f
 next j hj=>
 split at f;simp at f
 next all hall=>
 split at f;simp at f
 next hlen=>
 simp only[hfs,hi,hcl,hj,hall,hlen,mS];obtain⟨w,sn⟩:=vs;have a:=se hfs;have b:=sa G.inc a.1 hi;have l:=(kr b.1).1;obtain⟨j',c,m,r,t,u,_⟩:=G.afe l (G.ZQ a.2 b.2.1).1;rw[hj] at m;cases m;have p:∀q∈jQ (dH x.b.cU j).df (gr x.b.cU (dH x.b.cU i).id),Had x q:=λq g=>by unfold jQ at g;rw[r] at g;obtain⟨n,k,e,_⟩:=(G.ti.df t l u.symm).1 (Ax.1 g).1;grind[Had]
 have d:=rf (jQ (dH x.b.cU j).df (gr x.b.cU (dH x.b.cU i).id)) x.s λq g=>by obtain⟨n,s,v,k,rfl⟩:=p q g;have:=G.tk _ ⟨s,k,v,n,ae⟩;have:=(G.map (pt x.s.dv.nw s.cO k).1).2.1 cN;have:=G.n;omega
 exact K.leave (s:=dM x.s _) (by rw[d.2.1]) d.2.2.1 d.1 (((pq.refl _).set jH).erase _) p
structure ajh(x:GT)(t:Pl)(cO top:cQ)(iW:List cQ):Prop where
 iW:∀q∈iW,q≠cY/\∃k,pt x.s.dv.nw cO k=q
 mp:∀a,x.s.mp a≠1->t.mp a=x.s.mp a
 base:t.base=x.s.base
 pts:∀l,pt t.dv.nw top l≠cY->(∃k,pt x.s.dv.nw cO k=pt t.dv.nw top l)∨x.s.mp (pt t.dv.nw top l).1=1
theorem Ch.soft{t:Pl}(H:Ch x.s t cO top i iW):ajh x t cO top iW:=
 ⟨λq c=>by obtain⟨a,k,_,e⟩:=(H.iW q).1 c;grind,H.mp2,H.pw.ba,λl a=>by
  by_cases b:Kp i l
  . exact .inr (H.new l b a).1.fr
  . exact .inl ⟨l,(H.eS l b).symm⟩⟩
theorem mr.Yt(G:Good x)(K:mr C x)(w:v∈x.b.cU){t:Pl}(H:ajh x t v.cO top iW)(B:Wr (λa=>x.s.mp a=1) x.s.dv t.dv)(h:(r8 v.id top iW {x with s:=t}).2=0):mr C (r8 v.id top iW {x with s:=t}).1:=by
 unfold r8 zn at*;by_cases c:(jV (gV x.b v.id top) v.id iW).2.2≠0;rw[c8 c] at h;grind[vF];rw[cX c];clear h;unfold jV at c|-;split at c;simp at c
 next k hk=>
 split at c;simp at c
 next d g hkill=>
 simp only[hk,hkill];rw[tK] at hk;have n:=kR hk;have z:dH x.b.cU k=v:=G.ti.id n.2.1 w n.2.2;have F:dH (gV x.b v.id top).cU k= {v with cO:=top}:=by unfold gV;rw[Bo n.1,z,c8 ae]
 have D:=IM _ _ _ _ hkill;have y:(gV x.b v.id top).cU.set k {dH (gV x.b v.id top).cU k with df:=d}=x.b.cU.set k {v with cO:=top,df:=d}:=by have:=D8 G.inc n.1 top {v with cO:=top,df:=d};grind
 have r:∀q∈g,Had x q:=λq j=>by have b:=(D q).2.1 j;simp only[jL,false_or] at b;obtain⟨i,k,e⟩:=H.iW q b.1;grind[Had]
 have o:=rf g t λq j=>by obtain⟨i,s,A,k,rfl⟩:=r q j;have:=G.tk _ ⟨s,k,A,i,ae⟩;have:=(G.map (pt x.s.dv.nw s.cO k).1).2.1 cN;have:=G.n;omega
 have E:t.base=x.s.base:=H.base;refine⟨λa p b=>?_,λq j hc=>?_⟩;rcases o.1.one a b with b|⟨_,q,f,rfl,h4⟩;exact K.mp a p (Ae λf=>f (by rw[<-H.mp a f];exact b));have:=K.had q (r q f) p;omega;(show q.2.1<=(dM t g).base;rw[o.2.2.1,E];obtain⟨i,u,m,l,b⟩:=j;have b:pt (dM t g).dv.nw u.cO l=q:=b;have m:u∈(gV x.b v.id top).cU.set k {dH (gV x.b v.id top).cU k with df:=d}:=m;rw[o.2.1] at b;rw[y] at m;rcases vB m with f|rfl);exact K.had q ⟨i,u,f,l,((B.agree.pt G f).1 l).symm.trans b⟩ hc;subst b;rcases H.pts l i with⟨k,e⟩|e;exact K.had _ ⟨i,v,w,k,e⟩ hc;exact absurd e (K.mp _ hc)
theorem Good.Oi(G:Good x)(K:mr C x)(c:v∈x.b.cU)(d:PW (λa=>x.s.mp a=1) x.s t.1)(H:t.2.2.2=0->ajh x t.1 v.cO t.2.1 t.2.2.1)(h:(sS v.id x t).2=0):mr C (sS v.id x t).1:=by unfold sS at*;by_cases b:t.2.2.2≠0;rw[c8 b] at h;grind[vF];rw[cX b] at h|-;exact K.Yt G c (H cN) d.wr h
theorem Tc(G:Good x)(K:mr C x)(f:lI x.s.dv.nw)(g:gU x.s.cR)(cT:fM)(i:Int)(bs:cV)(d:∀y∈bs,y<256)(h:(mM cT i bs x).2=0):mr C (mM cT i bs x).1:=by unfold mM at*;by_cases a:(qJ x.b cT i).2≠0;grind;rw[cX a] at h|-;by_cases b:128<bs.n;grind;rw[cX b] at h|-;have v:=G.JC (by simpa using a);have c:=SL f g G.n.2 G.map (G.two v.1) (i:=i) d;exact G.Oi K v.1 c.1 (λe=>(c.2 e).2.2.1.soft) h
theorem Wg(G:Good x)(K:mr C x)(d:lI x.s.dv.nw)(f:gU x.s.cR)(cT:fM)(i:Int)(h:(rH cT i x).2=0):mr C (rH cT i x).1:=by
 unfold rH at*;by_cases b:(qJ x.b cT i).2≠0;grind
 rw[cX b] at h|-;have v:=G.JC (by simpa using b);have c:=Lq d f G.n.2 G.map (G.two v.1) (i:=i);exact G.Oi K v.1 c.1 (λe=>by
  rcases(c.2 e).2.2 with h|⟨b,h2,h3,h4,_⟩
  . exact h.1.soft
  . exact⟨by rw[h4];simp,λa _=>congrFun b a,c.1.ba,λl _=>.inl ⟨l,by rw[h2,h3]⟩⟩) h
theorem Pk(G:Good x)(cT:fM)(h:¬(fT x.b cT).2≠0):pq x.b.cU (fT x.b cT).1.cU:=by obtain⟨v,_,a,e,_⟩:=Cp G h;rw[e];intro t b;grind
theorem acw(G:Good x)(K:mr C x)(a:lI x.s.dv.nw)(b:gU x.s.cR)(o:Z7)(c:∀y∈o.data,y<256)(f:o.kind≠9):mr C (sh x o).1:=by
 unfold sh;simp only;split;refine K.call G (IK G _ _).2 λ_=>?_;unfold my;split;exact K;exact K.put (Tb _ _ _);split;exact K.call G (KG G a b _ _ _ c).2 (Tc G K a b _ _ _ c);split;exact K.call G (NP G a b _ _).2 (Wg G K a b _ _);split;obtain⟨d,e,w⟩:=JM o.name o.n x;rw[e];exact K.agree G (w _).agree;split;refine K.call G (NN G _).2 λ_=>?_;unfold vl;split;exact K;split;exact K;exact K.leave (s:=tW x.s) (jS:=[]) ae ae (.nil _ _) (YR _ _ _) eQ;split;refine K.call G (KF G _ _).2 λ_=>?_;unfold qL;split;exact K;exact K.put (Wd _ _ _);split;refine K.call G (FK G _).2 λ_=>?_;unfold lY;split;exact K;next h=>exact K.same (Pk G _ h)
 split;exact K.call G (NO G _).2 (K.ah5 G _ (YS _ _) (afJ G _));split;refine K.call G (FJ G _).2 λh=>?_;unfold lf at*;cases e:eW o.name with|none=>exact K|some p=>rw[e] at h;simp only[Option.elim] at h|-;split;(next h1=>rw[c8 h1] at h;exact K.ah5 G _ (Pj _ _) (Wf G _) h);simp_all[Oh]
 exact K
theorem PW.none{t:Pl}(h:PW (λ_=>False) s t):PW A s t:=h.mono λ_ h=>h.elim
def foldl_rel{α β:Type}(R:α->α->Prop)(d:∀a,R a a)(e:∀a b c,R a b->R b c->R a c){f:α->β->α}(h:∀a x,R a (f a x)):∀(l:List β)(a:α),R a (l.foldl f a)
 | [],a=>d a
 |x::l,a=>e _ _ _ (h a x) (foldl_rel R d e h l (f a x))
def Pm(s t:Pl):Prop:=PW (λ_=>False) s t/\t.mp=s.mp
theorem Pm.refl(s:Pl):Pm s s:=⟨.refl _,ae⟩
theorem Pm.trans{s t u:Pl}(h:Pm s t)(g:Pm t u):Pm s u:=⟨h.1.trans g.1,g.2.trans h.2⟩
theorem KM(s:Pl)(cO:cQ)(n:Int):Pm s (eP s cO n).1:=by
 have d:∀(l:List cQ)(w:Nat)(s:Pl),Pm s (fY s l w).1:=λl w s=>
  foldl_rel (f:=fX w) (λa b:Pl×(List cQ×Int)=>Pm a.1 b.1) (λ_=>.refl _) (λ_ _ _=>Pm.trans) (λa x=>by
   have:=Co (A:=λ_=>False) a.1 x;unfold fX;repeat' split
   all_goals first|exact .refl _|exact this) l (s,([],0))
 have text:∀(l:List cQ)(s:Pl),Pm s (pG s l).1:=λl s=>
  foldl_rel (f:=jW) (λa b:Pl×(cV×Int)=>Pm a.1 b.1) (λ_=>.refl _) (λ_ _ _=>Pm.trans) (λa x=>by
   have:=NI (A:=λ_=>False) a.1 x;unfold jW;repeat' split
   all_goals first|exact .refl _|exact this) l (s,([],0))
 have c:=foldl_rel (f:=ji) (λa b:Pl×(List cQ×List cQ×Int)=>Pm a.1 b.1) (λ_=>.refl _) (λ_ _ _=>Pm.trans) (λa x=>by
  have:=d a.2.1 x a.1;unfold ji;repeat' split
  all_goals first|exact .refl _|exact this) (qT n) (s,([cO],[cO],0))
 unfold eP;split;exact .refl _;simp only;split;exact c;generalize (qT n).foldl ji (s,([cO],[cO],0))=r at*;have t:Pm r.1 (fc r.1 r.2.1 n.m).1:=by grind[fc]
 have c:Pm s r.1:=c;split<;>exact c.trans t
def YT(ats:cV)(s t:Pl):Prop:=PW (·∈ats) s t/\t.mp=s.mp
theorem YT.refl{ats:cV}(s:Pl):YT ats s s:=⟨.refl _,ae⟩
theorem YT.trans{ats:cV}{s t u:Pl}(h:YT ats s t)(g:YT ats t u):YT ats s u:=⟨h.1.trans g.1,g.2.trans h.2⟩
def YT.sub{a b:cV}{t:Pl}(h:YT a s t)(g:∀x∈a,x∈b):YT b s t:=⟨h.1.mono g,h.2⟩
def Pm.wt{t:Pl}(h:Pm s t):YT ats s t:=⟨h.1.none,h.2⟩
theorem KN(bs ats:cV)(g:s.mp 0≠2):YT ats s (fG s bs ats).1:=by
 have text:∀(ee:cV)(s:Pl),s.mp 0≠2->YT ee s (gF s bs ee).1:=λee s h=>by have:=SN (A:=(·∈ee)) (m:=s.mp) (f:=ig ee) (λa x e=>NQ a x jH) ((finRange (fA bs.n 128)).map λk=>rF bs k.val) (s,([],0)) ae;exact this
 have b:∀(ps:List cQ)(ee:cV)(s:Pl),s.mp 0≠2->YT ee s (eV s ps ee).1:=λps ee s h=>by have:=SN (A:=(·∈ee)) (m:=s.mp) (f:=gX ee) (λa x e=>VM a x jH) ((finRange (fA ps.n 8)).map λk=>oJ ps k.val) (s,([],0)) ae;exact this
 have c:∀(f:Nat)(a:Pl×(List cQ×Int))(ee:cV),a.1.mp 0≠2->YT ee a.1 (jk f a ee).1:=by intro f;induction f with|zero=>exact λa ee _=>.refl _|succ f ih=>intro a ee h;unfold jk;split;have n:=b a.2.1 ee a.1 h;exact n.trans ((ih _ _ (by rw[n.2];exact h)).sub λx d=>mR d);exact .refl _
 unfold fG;split;exact .refl _;have t:=text ats s g;have l:=t.trans ((c 20 (gF s bs ats) (ats.drop (gF s bs ats).2.1.n) (by rw[t.2];exact g)).sub λx d=>mR d);grind
theorem Td(text ats:cV)(e:s.mp 0≠2):YT ats s (gO s text ats).1:=by
 have o:∀b q p n,Pm b.1 (mw5 b q p n).1:=λb q p n=>by
  have:=KM b.1 p (n:Nat);unfold mw5;repeat' split
  all_goals first|exact .refl _|exact this
 have m:∀a i g k j,Pm a.1 (mw4 a i g k j).1:=λa i g k j=>by unfold mw4;split;exact .refl _;exact(KM a.1 i (g:Nat)).trans (o _ _ _ _)
 have d:=(KN (s:=s) text (ats.take (jT (text.n:Nat))) e).sub (b:=ats) λx f=>lP f;unfold gO mw2;split;exact d;split;exact d;next sp hsp=>have l:=(KN (s:=(fG s text (ats.take (jT (text.n:Nat)))).1) sp ((ats.take (ats.n-1)).drop (jT (text.n:Nat))) (by rw[d.2];exact e)).sub (b:=ats) λx f=>lP (mR f);have b:=d.trans l;unfold mw3;split;exact b;split;exact b;next t ht=>refine(b.trans ?_).trans (m _ _ _ _ _).wt;have p:=Bp (fG (fG s text (ats.take (jT (text.n:Nat)))).1 sp ((ats.take (ats.n-1)).drop (jT (text.n:Nat)))).1 (ats.getD (ats.n-1) 0) t;refine⟨p.1.mono λc ⟨h1,h2⟩=>?_,p.2.1⟩;rw[h1];rw[zB] at h1|-;cases h:ats[ats.n-1]? with|none=>rw[h] at h1;simp at h1;rw[h1] at h2;exact absurd h2 (by rw[b.2];exact e)|some x=>grind
theorem KO(G:Good x):PW (λa=>x.s.mp a=1) x.s (gg x.s x.b x.dI).1:=by
 have j:∀q∈x.dI,q.1<1024:=λq d=>by have:=(G.hd q d).1;have:=(G.map q.1).2.1 cN;have:=G.n;omega
 have b:=rf x.dI x.s j;have m:∀a,(dM x.s x.dI).mp a=1->x.s.mp a=1:=λa h=>by rcases b.1.one a h with h|⟨_,q,d,_,h2⟩;exact h;have:=(G.hd q d).2.2.1;omega
 have base:PW (λa=>x.s.mp a=1) x.s (dM x.s x.dI):=⟨by rw[b.2.1];exact .refl _,b.2.2.2,b.2.2.1⟩;unfold gg;split;exact .refl _
 next text ht=>
 split
 . exact base
 next hc=>
 have t:(dM x.s x.dI).mp 0=0:=(b.1.zero 0).2 (Ae λh=>by have:=(G.map 0).2.1 h;omega);obtain⟨k,i⟩:=dG (nE text.n (dM x.s x.dI).dv.n);rw[i] at hc|-;have c:k<=fI (dM x.s x.dI).mp:=cN;have r:zQ (dM x.s x.dI).mp (k:Nat)=cu (iJ (dM x.s x.dI).mp k):=by simp_all[zQ]
 have e:xk (dM x.s x.dI).mp (k:Nat)=(iJ (dM x.s x.dI).mp k).1:=by grind[xk]
 have f:AL (dM x.s x.dI).mp (k:Nat)=(iJ (dM x.s x.dI).mp k).2:=by grind[AL]
 obtain⟨n,o,l,p⟩:=JF _ _ c;rw[e,f];have w:=Td (s:={dM x.s x.dI with mp:=(iJ (dM x.s x.dI).mp k).2}) text (iJ (dM x.s x.dI).mp k).1 (by
  grind)
 refine base.trans ⟨w.1.wr.mono λa g=>m a (l a g),w.1.st,w.1.ba⟩
def Dv.set(d:Dv):Prop:=d.nw=ny d.st d.ps
theorem YU(f:Nat->cV)(a b:List (Nat×cV)):ny f (a++b)=ny (ny f a) b:=by grind[ny]
theorem Wr.set{e:Dv}(h:Wr A d e)(g:d.set):e.set:=by obtain⟨l,o,f,k,_,rfl,_⟩:=h;show ny d.nw l=ny d.st (d.ps++l);rw[YU,g]
def Dv.calm(d:Dv):Prop:=d.ps=[]/\d.st=d.nw
theorem Dv.calm.set(h:d.calm):d.set:=by unfold Dv.set;rw[h.1,h.2];rfl
theorem Wh{a:Nat}(eS:List Bool):∀(l:List (Nat×cV))(f:Nat->cV)(k:Nat),(∀p∈l,p.1≠a)->oe f eS k l a=f a
 | [],_,_,_=>rfl
 |p::l,f,k,h=>by
  unfold oe;rw[Wh eS l _ (k+1) λq b=>h q (kT _ b)];split
  . unfold iM;grind
  . rfl
theorem KP(hc:z.s.dv.calm)(w:Wr (λa=>z.s.mp a=1) z.s.dv d)(eS:List Bool):tN z (lU d eS):=by
 obtain⟨l,o,f,k,c,rfl,_⟩:=w;refine⟨ae,λa b=>?_⟩;show oe z.s.dv.st eS 0 (z.s.dv.ps++l) a=_;rw[hc.1,hc.2]
 grind[Wh]
def Cv(d:Dv)(eS:List Bool):(lU d eS).calm/\(lU d eS).al:=⟨⟨ae,ae⟩,ae,ae⟩
structure KQ(x:GT)(k:Nat):Prop where
 ql:Good x
 fit:Fit x
 ring:Ring x.s.dv.nw x.ub
 set:x.s.dv.set
 st:x.s.cR<=k
 nx:x.b.next<=k
 tx:x.ub.kJ<=k
theorem KQ.ok(h:KQ x k)(a:x.s.dv.al):Ok x k:=⟨⟨h.ql,h.fit,a⟩,h.ring,h.st,h.nx,h.tx⟩
def Ok.okB(h:Ok x k)(s:x.s.dv.set):KQ x k:=⟨h.inv.ql,h.inv.fit,h.ring,s,h.st,h.nx,h.tx⟩
def KQ.agree(h:KQ x k)(w:tN x d)(s:d.set):KQ (asked x d) k:=⟨h.ql.agree w,h.fit.agree w,h.ring.agree h.ql w,s,h.st,h.nx,h.tx⟩
def KQ.far{y:GT}{j:Nat}(h:KQ x k)(G:Good y)(F:Fit y)(s:y.s.dv.set)(f:Far x y j):KQ y (k+j):=by have m:=mod_lt x.ub.kJ (show 4>0 by decide);refine⟨G,F,?_,s,by have:=f.st;have:=h.st;omega,by have:=f.nx;have:=h.nx;omega,by rw[f.ub];have:=h.tx;omega⟩;rw[f.ub];exact⟨(f.ring _ m).trans h.ring.here,h.ring.right,h.ring.parts,λi b a v c=>by rw[f.ring i b] at c;exact h.ring.iW i b a v c⟩
structure GO(z:GT)(k:Nat):Prop where
 ok:KQ z k
 done:∃x,C' x z
 calm:z.s.dv.calm
 iW:∀q,Had z q->q.2.1<=z.s.base
def GO.agree(h:GO z k)(w:tN z d)(c:d.calm):GO (asked z d) k:=by obtain⟨x,D⟩:=h.done;exact⟨h.ok.agree w c.set,⟨x,D.agree w⟩,c,λq ⟨h0,s,hs,k,e⟩=>h.iW q ⟨h0,s,hs,k,((w.pt h.ok.ql hs).1 k).symm.trans e⟩⟩
theorem GO.le{z:GT}{k j:Nat}(h:GO z k)(l:k<=j):GO z j:=⟨⟨h.ok.ql,h.ok.fit,h.ok.ring,h.ok.set,ik h.ok.st l,ik h.ok.nx l,ik h.ok.tx l⟩,h.done,h.calm,h.iW⟩
structure Eg(z x:GT):Prop where
 wr:Wr (λa=>z.s.mp a=1) z.s.dv x.s.dv
 keeps:mr (λa=>z.s.mp a≠1) x
def GO.since(h:GO z k):Eg z z:=⟨.refl _,λ_ a=>a,λq b _=>h.iW q b⟩
theorem Eg.mp(S:Eg z x)(a:Nat)(h:x.s.mp a=1):z.s.mp a=1:=Ae λb=>S.keeps.mp a b h
def KQ.ask(h:KQ x k)(c:lI x.s.dv.nw)(d:gU x.s.cR)(o:Z7)(b:∀y∈o.data,y<256)(a:o.kind≠9):KQ (sh x o).1 (k+1)/\(sh x o).1.s.dv.n=x.s.dv.n/\∀z,Eg z x->Eg z (sh x o).1:=by obtain⟨g,f,s⟩:=YI h.ql h.fit c d o b a;exact⟨h.far g.1 f (g.2.set h.set) (ai6 h.ql g s),g.2.n,λz S=>⟨S.wr.trans (g.2.mono S.mp),acw h.ql S.keeps c d o b a⟩⟩
def GK(a:d.set)(h:(fH d).2=0):(fH d).1.calm:=by
 unfold fH at*;split at h;next h1=>rw[c8 h1];obtain⟨o,f,k,e,_⟩:=wx d;rw[e];exact⟨ae,a.symm⟩
 omega
theorem acx(e:d.set)(h:(dP d u).2=0):(dP d u).1.calm:=by
 unfold dP at*;generalize kD u=ub at*;cases ub with|none=>simp at h|some b=>
 simp only at h|-;by_cases a:(fH d).2≠0;grind;rw[cX a] at h|-;by_cases c:(gw (fH d).1 ((u.kJ%4:Nat):Int) b).2≠0;grind;rw[cX c] at h|-;have w:=(NH (A:=λ_=>True) (fH d).1 ((u.kJ%4:Nat):Int) b λ_ _=>iC).1;exact GK (w.set (GK e cN).set) h
theorem KR(G:Good x)(e:x.s.dv.set)(h:(iS x).2=0):(iS x).1.s.dv.calm/\∀a,4<=a->x.s.mp a≠1->(iS x).1.s.dv.nw a=x.s.dv.nw a:=by have m:=KO G;unfold iS q8 at*;generalize gg x.s x.b x.dI=r at*;by_cases c:r.2.2.2≠0;grind;rw[cX c] at h|-;by_cases b:(dP r.1.dv (qk x r)).2≠0;grind;rw[cX b];have b:(dP r.1.dv (qk x r)).2=0:=cN;have u:=(Eb r.1.dv (qk x r)).2.1 b;refine⟨acx (m.wr.set e) b,λa f d=>?_⟩;show(dP r.1.dv (qk x r)).1.nw a=_;rw[u.2];unfold iM;rw[cX cN];exact m.wr.nw d
theorem KQ.sync(h:KQ x k)(B:k<=281474976710600)(o:lI x.s.dv.nw)(e:(dX x gD).2=0):GO (dX x gD).1 (k+1)/\C' x (dX x gD).1/\(∀a,4<=a->x.s.mp a≠1->(dX x gD).1.s.dv.nw a=x.s.dv.nw a):=by
 have y:=h.st;have z:=h.nx;have A:=h.tx;have G:=h.ql;have g:(dX x gD).1=(iS x).1/\(iS x).2=0:=by unfold dX at*;split at e;simp at e;next h1=>rw[cX h1];unfold r9 at*;split at e;omega;next m=>rw[cX m];have m:(gD x).2=0:=cN;unfold gD at*;grind
 rw[g.1];have D:=Ec G o bG cN (λt e=>r5 e) g.2;obtain⟨c,same⟩:=KR G h.set g.2;have u:iR x.ub.kJ=x.ub.kJ+1:=qU cN;have C:iR x.s.cR=x.s.cR+1:=qU cN;have w:Ring (iS x).1.s.dv.nw (iS x).1.ub:=by obtain⟨text,ats,_,L,_⟩:=D.laid;refine⟨D.slot,D.ub.2.2.2.2,L.parts G.n.2 bG,λi n j v l r=>?_⟩;rw[D.ub.1,u];rw[D.ring i n j] at l;by_cases d:i=x.ub.kJ%4;rw[d,h.ring.here,ES h.ring.right h.ring.parts] at l;grind;have:=h.ring.iW i n d v l r;omega
 refine⟨⟨⟨D.ql,D.fit G h.fit,w,c.set,by rw[D.cR.1];omega,by rw[D.b];omega,by rw[D.ub.1];omega⟩,⟨x,D⟩,c,λq p=>?_⟩,D,same⟩;obtain⟨f,s,b,k,rfl⟩:=p;rw[D.b] at b;have d:pt (iS x).1.s.dv.nw s.cO k=pt x.s.dv.nw s.cO k:=((G.rd s b).congr λk f=>by
  have:=G.tk _ ⟨s,k,b,f,ae⟩;exact amV).2 k
 rw[D.cR.2];rw[d] at f|-;have:=(G.ti.bt b f).2;unfold CX at this;split at this;have:=G.ti.st b ‹_›;omega;exact this
theorem GO.Wi(h:GO z k)(t:k<=281474976710600)(q:∀s∈z.b.cU,tf s)(w:tN z d)(c:d.calm)(i:d.df=cy):
 ∃e,lZ d=(asked z e,0)/\Wr (λ_=>False) d e/\e.df=cy/\GO (asked z e) k:=by
 have g:=h.agree w c;obtain⟨x,D⟩:=g.done;obtain⟨e,m,b,n⟩:=YQ D g.ok.ring g.ok.fit i q ⟨by have:=h.ok.tx;grind[asked],by have:=h.ok.nx;grind[asked],by have:=h.ok.st;have:=D.cR.2;have:=D.ub.2.1;have:=D.ql.st;grind[asked]⟩;have r:tN (asked z d) e:=⟨b.n,λa _=>b.nw id⟩;have j:e.calm:=by obtain⟨l,o,f,k,u,rfl,_⟩:=b;cases l with|nil=>exact⟨by show d.ps++[]=[];rw[c.1];rfl,c.2⟩|cons p l=>grind[mem_cons_self]
 exact⟨e,m,b,n,g.agree r j⟩
theorem C'.com{y:GT}(h:KQ x k)(u:k<=281474976710600)(D:C' x y)(c:y.s.dv.calm)(same:∀a,4<=a->x.s.mp a≠1->y.s.dv.nw a=x.s.dv.nw a):GO y (k+1):=by
 have p:=h.st;have r:=h.nx;have t:=h.tx;have G:=h.ql;have n:iR x.ub.kJ=x.ub.kJ+1:=qU cN;have w:iR x.s.cR=x.s.cR+1:=qU cN;have o:Ring y.s.dv.nw y.ub:=by obtain⟨text,ats,_,L,_⟩:=D.laid;refine⟨D.slot,D.ub.2.2.2.2,L.parts G.n.2 bG,λi j f v g m=>?_⟩;rw[D.ub.1,n];rw[D.ring i j f] at g;by_cases d:i=x.ub.kJ%4;rw[d,h.ring.here,ES h.ring.right h.ring.parts] at g;grind;have:=h.ring.iW i j d v g m;omega
 refine⟨⟨D.ql,D.fit G h.fit,o,c.set,by rw[D.cR.1];omega,by rw[D.b];omega,by rw[D.ub.1];omega⟩,⟨x,D⟩,c,λq l=>?_⟩;obtain⟨e,s,b,k,rfl⟩:=l;rw[D.b] at b;have d:pt y.s.dv.nw s.cO k=pt x.s.dv.nw s.cO k:=((G.rd s b).congr λk e=>by
  have:=G.tk _ ⟨s,k,b,e,ae⟩;exact amV).2 k
 rw[D.cR.2];rw[d] at e|-;have:=(G.ti.bt b e).2;unfold CX at this;split at this;have:=G.ti.st b ‹_›;omega;exact this
def Left(d:Dv)(k:Nat):Prop:=∀eS,∃y,GO y k/\fi y.b/\tN y (lU d eS)
theorem GL(d:Dv):((iN d).2=cy->(iN d).1.df=cx)/\((iN d).2=cx->(iN d).1.df=cy/\d.df=cy):=by grind[iN]
theorem afL(f:Nat->cV)(eS:List Bool)(p:Nat×cV):oe f eS 0 [p]=f∨oe f eS 0 [p]=iM f p.1 p.2:=by grind[oe]
theorem afM(s:d.set)(h:(dP d u).2≠0)(x:4<=d.n):
 Wr (λ_=>False) d (dP d u).1∨((dP d u).1.df=cx/\(dP d u).1.n=d.n/\kC u=cx/\∀eS,(lU (dP d u).1 eS).nw=d.nw∨(lU (dP d u).1 eS).nw=iM d.nw (u.kJ%4) (oX u)):=by
 unfold dP kD at*;by_cases n:kC u=cx;case neg=>simp only[n] at*;exact .inl (.refl _)
 simp only[n,oQ] at h|-;have i:=GH d;by_cases j:(fH d).2≠0;rw[c8 j];left;obtain⟨o,f,k,e,q⟩:=wx d;unfold fH at j|-;split;grind;rw[e];simp_all[ny,Wr];rw[cX j] at h|-;have b:=GK s cN;have m:(fH d).1.nw=d.nw:=i.2.1;generalize fH d=F at*;right;obtain⟨o,f,k,e,q⟩:=wx F.1;have v:=GL (fm F.1);have r:L8 F.1 ((u.kJ%4:Nat):Int)=cx:=by grind[L8]
 by_cases a:(gw F.1 ((u.kJ%4:Nat):Int) (oX u)).2≠0;rw[c8 a];unfold gw at a|-;rw[c8 r] at a|-;split;grind;next c=>(have c:(iN (fm F.1)).2=cy:=by grind);have:=v.1 c;rw[e] at this|-;refine⟨this,i.1,iC,λeS=>.inl ?_⟩;show oe F.1.st eS 0 F.1.ps=d.nw;rw[b.1,b.2,m];rfl
 rw[cX a] at h|-;have t:gw F.1 ((u.kJ%4:Nat):Int) (oX u)=({(iN (fm F.1)).1 with nw:=iM F.1.nw (u.kJ%4) (oX u),ps:=F.1.ps++[(u.kJ%4,oX u)]},0):=by unfold gw at a|-;grind
 rw[t] at h|-;simp only at h|-;rw[e] at h|-;generalize hg:(⟨F.1.n,F.1.st,iM F.1.nw (u.kJ%4) (oX u),F.1.ps++[(u.kJ%4,oX u)],o,f,k⟩:Dv)=g at*;have l:=GL (fm g);obtain⟨z,w,y,p,_⟩:=wx g;unfold fH at h|-;by_cases c:(iN (fm g)).2=cx;grind;rw[cX c];have:=l.1 jH;rw[p] at this|-;subst hg;refine⟨this,i.1,iC,λeS=>?_⟩;show oe F.1.st eS 0 (F.1.ps++[(u.kJ%4,oX u)])=d.nw∨oe F.1.st eS 0 (F.1.ps++[(u.kJ%4,oX u)])=_;rw[b.1,b.2,m];exact afL _ eS _
theorem afN(h:KQ x k)(C:GO z k)(s:fi z.b)(S:Eg z x)(o:k<=281474976710600)(n:lI x.s.dv.nw)(r:fi x.b)(e:(dX x gD).2≠0):
 (Eg z (dX x gD).1/\KQ (dX x gD).1 k)∨((dX x gD).1.s.dv.df=cx/\Left (dX x gD).1.s.dv (k+1)):=by
 have u:=h.st;have v:=h.nx;have A:=h.tx;have G:=h.ql;have ask:∀d,Wr (λa=>x.s.mp a=1) x.s.dv d->Eg z (asked x d)/\KQ (asked x d) k:=λd w=>⟨⟨S.wr.trans (w.mono S.mp),S.keeps.agree G w.agree⟩,h.agree w.agree (w.set h.set)⟩;have same:Eg z x/\KQ x k:=⟨S,h⟩;unfold dX r9 at*;by_cases j:x.s.dv.df=cx;grind;rw[cX j] at e|-;by_cases g:(gD x).2≠0;case neg=>grind
 rw[c8 g];unfold gD at*;rw[cX j] at g|-;split;omega
 next h3=>
 rw[cX h3] at g;split;simp_all[asked]
 next h4=>
 rw[cX h4] at g;have b:=KO G;have c:=@KH x G n bG cN (λt e=>r5 e);unfold iS q8 at*;generalize gg x.s x.b x.dI=m at*;by_cases l:m.2.2.2≠0;rw[c8 l];exact .inl (ask _ b.wr);rw[cX l] at g|-;by_cases h6:(dP m.1.dv (qk x m)).2≠0;case neg=>grind
 rw[c8 h6];have B:=G.n;have q:m.1.dv.n=x.s.dv.n:=b.wr.n;rcases afM (b.wr.set h.set) h6 cN with w|⟨d1,d2,d3,d4⟩;exact .inl (ask _ (b.wr.trans (w.mono λ_ f=>f.elim)));refine .inr ⟨d1,λeS=>?_⟩;generalize (dP m.1.dv (qk x m)).1=d at*;show∃y,GO y (k+1)/\fi y.b/\tN y (lU d eS);rcases d4 eS with h7|h7
 refine⟨z,C.le (yr k),s,?_,λa i=>?_⟩;(show d.n=_;rw[d2,q];exact S.wr.n);rw[h7,b.wr.nw (λe=>i (S.mp a e))];exact S.wr.nw i;have D:=c cN (dv:=lU d eS) d2 h7 d3;refine⟨_,C'.com h o D (Cv d eS).1 λa i p=>?_,r,⟨ae,λ_ _=>ae⟩⟩;show(lU d eS).nw a=_;rw[h7];unfold iM;rw[cX cN];exact b.wr.nw p
theorem afO(h:x.s.dv.df=cx)(o:Z7):(sh x o).1=x/\(o.kind=9->(sh x o).2.2≠0):=by
 unfold sh dX vr;simp only[c8 h];constructor
 . (repeat' split);all_goals rfl
 grind
theorem GO.off(h:GO z k):GO (asked z {z.s.dv with df:=cx}) k:=h.agree ⟨ae,λ_ _=>ae⟩ h.calm
def Wj(x:GT)(k:Nat):Prop:=(∃z,GO z k/\fi z.b/\z.s.dv.df=cx/\Eg z x/\KQ x k)∨(x.s.dv.df=cx/\Left x.s.dv k)
def GO.au{y:GT}(h:GO y k)(t:fi y.b):Wj y k:=
 .inl ⟨_,h.off,t,ae,⟨⟨[],y.s.dv.ops,y.s.dv.left,y.s.dv.df,by simp,by simp[ny,asked],λe=>by cases e.1⟩,λ_ a=>a,λq b _=>h.iW q b⟩,h.ok⟩
theorem Left.le{d:Dv}{k j:Nat}(h:Left d k)(l:k<=j):Left d j:=λeS=>let⟨y,a,b⟩:=h eS;⟨y,a.le l,b⟩
theorem KQ.le{x:GT}{k j:Nat}(h:KQ x k)(l:k<=j):KQ x j:=⟨h.ql,h.fit,h.ring,h.set,ik h.st l,ik h.nx l,ik h.tx l⟩
theorem afP(e:(fH d).2=0):(fH d).1.df=cy:=by unfold fH at*;split at e;simp_all[GL];omega
theorem ahy(e:(dP d u).2=0):(dP d u).1.df=cy:=by unfold dP at*;cases h:kD u with|none=>grind|some b=>rw[h] at e;simp only at e|-;by_cases a:(fH d).2≠0;grind;rw[cX a] at e|-;by_cases c:(gw (fH d).1 ((u.kJ%4:Nat):Int) b).2≠0;grind;simp_all[afP]
def ahz(e:(dX x gD).2=0):(dX x gD).1.s.dv.df=cy:=by unfold dX r9 at*;split at e;simp at e;next h1=>rw[cX h1];split at e;omega;next h2=>rw[cX h2];unfold gD iS q8 at*;generalize gg x.s x.b x.dI=m at*;rw[cX h1] at h2|-;split at h2;simp at h2;next h3=>rw[cX h3];split at h2;simp at h2;next h4=>rw[cX h4];split at h2;omega;next h5=>rw[cX h5];split at h2;omega;next h6=>rw[cX h6];exact ahy cN
theorem Wj.ask(h:Wj x k)(i:k<=281474976710600)(d:lI x.s.dv.nw)(r:gU x.s.cR)(t:fi x.b)(o:Z7)(p:∀y∈o.data,y<256)(ty:fi (sh x o).1.b):
 Wj (sh x o).1 (k+1)/\(o.kind=9->(sh x o).2.2=0->GO (sh x o).1 (k+1)/\(sh x o).1.s.dv.df=cy):=by rcases h with⟨z,C,g,l,S,ok⟩|⟨j,L⟩;by_cases c:o.kind=9;(have m:=V3 x c;have n:(sh x o).2.2=(dX x gD).2:=by grind[sh]);rw[m] at ty|-;rw[n];by_cases e:(dX x gD).2=0;have q:=(ok.sync i d e).1;exact⟨q.au ty,λ_ _=>⟨q,ahz e⟩⟩;refine⟨?_,λ_ f=>absurd f e⟩;rcases afN ok C g S i d t e with⟨a,b⟩|⟨a,b⟩;exact .inl ⟨z,C.le (yr k),g,l,a,b.le (yr k)⟩;grind[Wj];obtain⟨a,_,s⟩:=ok.ask d r o p c;exact⟨.inl ⟨z,C.le (yr k),g,l,s z S,a⟩,λe=>absurd e c⟩;obtain⟨a,b⟩:=afO j o;rw[a];exact⟨.inr ⟨j,L.le (yr k)⟩,λe f=>absurd f (b e)⟩
theorem Wj.brk(h:Wj x k)(n:Int):Wj (asked x (xU x.s.dv n)) k:=by rcases h with⟨z,C,g,a,S,ok⟩|⟨d,L⟩;obtain⟨⟨l,o,f,j,c,i,m⟩,K⟩:=S;have b:tN x (xU x.s.dv n):=⟨ae,λ_ _=>ae⟩;exact .inl ⟨z,C,g,a,⟨⟨l,o,max n (-1),j,c,by simp_all[xU,asked],λe=>by rw[e.1] at a;cases a⟩,K.agree ok.ql b⟩,ok.agree b ok.set⟩;exact .inr ⟨d,L⟩
theorem GO.opened(h:GO z k)(u:k<=281474976710600)(m:fi z.b)(w:tN z d)(c:d.calm)(n:d.df=cy):
 ∃e v r,lZ d=(asked z e,0)/\e.nw=d.nw/\vG e=(v,(r,0))/\Ct r=cx/\GO (asked z v) k:=by obtain⟨e,q,s,t,b⟩:=h.Wi u m.parts w c n;obtain⟨x,D⟩:=b.done;obtain⟨v,r,y,A,g⟩:=acs D b.ok.ring b.ok.fit t m.parts;refine⟨e,v,r,q,funext λa=>s.nw id,y,A,b.agree (d:=v) ⟨g.n,λa _=>g.nw id⟩ ?_⟩;have i:=b.calm;obtain⟨l,o,f,j,B,rfl,_⟩:=g;cases l with|nil=>exact⟨by show e.ps++[]=[];rw[show e.ps=[] from i.1];rfl,i.2⟩|cons p l=>grind[mem_cons_self]
def Wj.Wi(h:Wj x k)(eS:List Bool):∃y,GO y k/\fi y.b/\tN y (lU x.s.dv eS):=by rcases h with⟨z,C,a,c,S,ok⟩|⟨b,L⟩;exact⟨z,C,a,KP C.calm S.wr eS⟩;exact L eS
def acy(h:64<=n/\n<=400):GO (jJ (kA n)).1 2:=by
 obtain⟨g,d,a,_⟩:=Oc h;have e:jJ (kA n)=iS (gM (kA n)):=by unfold jJ;rw[cX aml]
 have c:=KR (Ob (n:=n) cN) (show(kA n).set from ae) jH;rw[<-e] at c;refine⟨d.okB c.1.set,⟨_,a⟩,c.1,λq f=>?_⟩;obtain⟨_,s,b,_⟩:=f;rw[a.b] at b;cases b
def IW:∀(ts:List du)(s:Pl)(a:List jO×Bool),(tL ts s a).1.dv.ops<=s.dv.ops+9*ts.n
 | [],s,a=>xN _ _
 |t::ts,s,a=>by
  have h:=Kv s t.cO 0;have b:=λa=>IW ts (fR s t.cO 0).1 a;unfold tL;rw[lq];split
  . simp only;omega
  split
  . simp only;omega
  . have:=b (pQ cy (fR s t.cO 0).2.1 a);omega
theorem acz(h:lI d.nw):(vG d).1.ops<=d.ops+9100000:=by have u:=r7 d h;unfold vG;split;grind;unfold QL;split;grind;split;grind;split;grind;have m:=vi ⟨(eZ d).1,pR (eZ d).1.n,0,0⟩ (show lI (eZ d).1.nw by grind) ((eZ d).2.getD lR).iG;generalize jX ⟨(eZ d).1,pR (eZ d).1.n,0,0⟩ ((eZ d).2.getD lR).iG=r at*;have b:r.1.dv.ops<=(eZ d).1.ops+20000:=m.2.2.1;have a:=m.1.fit.1;unfold aaa;split;grind;have w:=IW r.2.1.cU r.1 (pQ cx r.2.2.2.1 ([],cy));simp only;split<;>simp only<;>omega
def tj.walked(h:tj x N)(a:lI d.nw)(ho:d.ops<=N):tj (asked x (vG d).1) (N+9100000):=
 ⟨h.text,h.qD,ik (acz a) cN⟩
def oC(b c:List du):Prop:=∀t∈b,∃u∈c,u.id=t.id/\dK u=dK t/\(t.dz=cx->u.cO=t.cO/\u.blocks=t.blocks)
def oC.sub{b:List du}(h:∀t∈b,t∈c):oC b c:=λt a=>⟨t,h t a,ae,ae,λ_=>⟨ae,ae⟩⟩
theorem oC.refl(b:List du):oC b b:=.sub λ_ h=>h
theorem oC.set(l:List du)(k:Nat)(b:y.id=(dH l k).id)(c:dK y=dK (dH l k))(d:(dH l k).dz=cx->y.cO=(dH l k).cO/\y.blocks=(dH l k).blocks):oC l (l.set k y):=λt a=>by obtain⟨j,f,rfl⟩:=yk a;by_cases e:k=j;grind[dH,mem_iff_getElem];exact⟨l[j],xz.2 ⟨j,by grind,by grind⟩,ae,ae,λ_=>⟨ae,ae⟩⟩
def Aw(b:List du)(iK sn:fM)(cO:cQ)(n:Nat):Prop:=∃s∈b,∃v∈b,s.dz=cx/\dK v=(0,iK)/\dK s=(v.id,sn)/\s.cO=cO/\s.blocks=n
theorem Aw.stays{b:List du}(h:Aw b iK sn cO n)(g:oC b c)(ho:∀u∈c,u.dz=cy->∀t∈b,t.dz=cx->dK u≠dK t):Aw c iK sn cO n:=by obtain⟨s,a,v,d,o,p,q,r,w⟩:=h;obtain⟨s',e,f,i,j⟩:=g s a;obtain⟨v',k,l,m,_⟩:=g v d;grind[Aw]
theorem Te(b:ej)(cT:fM)(n:Int):oC b.cU (iO b cT n).1.cU:=by grind[iO,u',oC]
theorem Wk(b:ej)(f t:fM):oC b.cU (jA b f t).1.cU:=by
 unfold jA u';repeat' split
 all_goals first|exact .refl _|exact .sub λ_ h=>LF _ h
theorem oC.trans{a b c:List du}(h:oC a b)(g:oC b c)(f:∀t∈a,t.dz=cx->∀u∈b,u.id=t.id->u.dz=cx):oC a c:=λt d=>by obtain⟨u,u1,u2,u3,u4⟩:=h t d;obtain⟨w,j,k,l,i⟩:=g u u1;exact⟨w,j,k.trans u2,l.trans u3,λe=>⟨(i (f t d e u u1 u2)).1.trans (u4 e).1,(i (f t d e u u1 u2)).2.trans (u4 e).2⟩⟩
def Good.owned(G:Good x){s:du}(a:s∈x.b.cU)(h:s.dz=cx):(dK s).1≠0:=by obtain⟨o,ho,_,b⟩:=G.zt.own a h;unfold dK;rw[h];show s.cZ≠0;rw[<-b];exact G.ti.pos ho
theorem Aw.ql{y:GT}(G:Good x)(H:Good y)(h:Aw x.b.cU iK sn cO n)(g:oC x.b.cU y.b.cU):Aw y.b.cU iK sn cO n:=
 h.stays g λu d e t c a b=>by
  have:=G.owned c a;rw[<-b] at this;unfold dK at this;grind
theorem YV{x:GT}(G:Good x)(cT:fM)(st:Nat):oC x.b.cU (iH x.b cT st).1.cU:=by
 unfold iH;split;exact .refl _
 next iK sn hfs=>
 split;exact .refl _
 next i hi=>
 split;exact .refl _;split;exact .refl _;split;exact .refl _;have a:=se hfs;have b:=sa G.inc (QA (D7 a.1)) hi;have c:dK (dH x.b.cU i)=(0,iK):=by have:=b.2.1;unfold Bm at this;grind
 have f:=(G.ae8 (kr b.1).1 c).1;rw[set_append_left _ _ b.1];intro t d;obtain⟨u,e,h⟩:=oC.set x.b.cU i (y:={dH x.b.cU i with dB:=x.b.next,df:=[]}) ae ae (λ_=>⟨ae,ae⟩) t d;grind
theorem YW{x:GT}(G:Good x)(cT:fM):oC x.b.cU (jI x.b cT).1.cU:=by unfold jI;split;exact .refl _;next i c hi=>split;exact .refl _;exact .set _ _ ae ae λh=>by rw[(qM G hi).2.2] at h;cases h
def YX(id:Nat)(l:List cQ):oC b.cU (jV b id l).1.cU:=by
 unfold jV;repeat' split
 all_goals first|exact .refl _|exact .set _ _ rfl rfl λ_=>⟨ae,ae⟩
theorem Pn(G:Good x)(b:v∈x.b.cU)(iK:v.dz=cy)(top:cQ):oC x.b.cU (gV x.b v.id top).cU:=λt a=>by
 refine⟨_,gT.2 ⟨t,a,ae⟩,?_⟩;split;next h=>exact⟨ae,ae,λe=>by rw[G.ti.id a b h,iK] at e;cases e⟩
 grind
theorem YY{x:GT}(G:Good x){v:du}(d:v∈x.b.cU)(iK:v.dz=cy)(t:Pl)(top:cQ)(iW:List cQ):oC x.b.cU (r8 v.id top iW {x with s:=t}).1.b.cU:=by unfold r8 zn;split;exact .refl _;(refine(Pn G d iK top).trans (YX _ _) λt b e u c g=>?_;obtain⟨w,f,rfl⟩:=gT.1 c;have a:w.id=t.id:=by grind);rw[G.ti.id f b a];grind
theorem Oj(G:Good x)(a:v∈x.b.cU)(iK:v.dz=cy)(t:Pl×(cQ×(List cQ×Int))):oC x.b.cU (sS v.id x t).1.b.cU:=by grind[sS,YY,oC]
theorem wA{k:GT->GT×Int}(h:(k x).2=0->oC x.b.cU (k x).1.b.cU):oC x.b.cU (dX x k).1.b.cU:=by unfold dX r9;grind[oC,asked]
theorem aji(s:fM)(h:0<=atIdx s):s=s.extract 0 (atIdx s).m++RJ++s.extract ((atIdx s).m+1) s.s:=by
 unfold atIdx firstIdx at*;cases e:(range s.s).find? λi=>s[i]! ==64 with
 |none=>grind
 |some k=>
  have c:=find?_some e;have a:=zA.1 (QU e);simp only[uI];obtain⟨d⟩:=s;have a:k<d.s:=a;have b:d[k]=64:=by(have:(ByteArray.mk d)[k]! =64:=by grind);rw[getElem!_pos (ByteArray.mk d) k a] at this;exact this
  apply ByteArray.ext;apply Array.ext';simp only[ByteArray.data_append,ByteArray.data_extract,Array.toList_append,Array.toList_extract];show d.t=(extract d.t 0 k++[64])++extract d.t (k+1) d.s;rw[<-b];simp[extract];rw[show take (d.s-(k+1)) (drop (k+1) d.t)=drop (k+1) d.t from nV eQ]
  conv=>lhs;rw[<-Ac k d.t,Db cN]
  simp
theorem YZ{cT v s:fM}(h:eW cT=cu (v,s))(b:s≠tp):cT=v++RJ++s/\ff v=cx/\ff s=cx:=by have a:=D7 h;unfold eW at h;split at h;cases h;next h1=>simp only[yq,LA] at h;obtain⟨rfl,rfl⟩:=h;unfold zx at h1 b a|-;by_cases c:0<=atIdx cT;simp only[c8 c] at h1 b a|-;grind[aji];grind
theorem afQ{t:du}{v:fM}(h:dK t=(0,v))(g:t.dz=cx->(dK t).1≠0):t.dz=cy:=by grind
theorem Wl{x:GT}(G:Good x)(cT:fM){iK sn:fM}{cO:cQ}{n:Nat}(h:Aw x.b.cU iK sn cO n):Aw (fx x.b cT).1.cU iK sn cO n:=by unfold fx;split;exact h;next i c hi=>split;exact h;next hw=>have b:=qM G hi;have l:=G.ZT b.2.1 b.2.2 hw;obtain⟨s,j,v,k,a,d,f,g⟩:=h;have e:=λt=>(G.inc.erase b.1 (s:=t)).2;refine⟨s,e s ⟨j,λe=>?_⟩,v,e v ⟨k,λe=>?_⟩,a,d,f,g⟩;grind;simp_all[dK]
theorem Tf{x:GT}(G:Good x)(cT:fM){iK sn:fM}(F:cT≠iK++RJ++sn){cO:cQ}{n:Nat}(h:Aw x.b.cU iK sn cO n):Aw (eu x.b cT).1.cU iK sn cO n:=by
 unfold eu;split;exact h
 next vs hfs=>
 split;exact h
 next i hi=>
 split;exact h;split;exact h
 next j hj=>
 split;exact h;split;exact h;obtain⟨F,s'⟩:=vs;have a:=se hfs;have b:=sa G.inc a.1 hi;have ask:=b.2.1;unfold Bm at ask;rw[cX a.2] at ask;obtain⟨v',q,A,k⟩:=ask;obtain⟨s,M,v,p,I,m,J,K,L⟩:=h;have g:=(kr b.1).1;have V:=(G.ZQ a.2 b.2.1).1;have T:s≠dH x.b.cU i:=λe=>by rw[<-e,J] at k;simp only[LA] at k;have:v=v':=G.ti.id p q k.1;rw[<-this,m] at A;simp only[LA,true_and] at A;grind[YZ]
 have U:v≠dH x.b.cU i:=λe=>by have:=afQ m (G.owned p);grind
 obtain⟨j',c,C,F,D,E,_⟩:=G.afe g V;rw[hj] at C;cases C;have f:=(kR hj).1;have r:i≠j:=λe=>by have:=(G.ti.pJ D g E.symm).2.2;grind
 suffices H:∀y:du,y.id=(dH x.b.cU j).id->dK y=dK (dH x.b.cU j)->y.dz=(dH x.b.cU j).dz->y.cO=(dH x.b.cU j).cO->y.blocks=(dH x.b.cU j).blocks->Aw ((x.b.cU.set j y).eraseIdx i) iK sn cO n from H _ ae ae ae ae ae
 intro y z Y Z J V;have F:dH (x.b.cU.set j y) i=dH x.b.cU i:=by simp_all[dH,pU]
 have R:CY (x.b.cU.set j y):=G.inc.EO z;have B:∀t,t∈(x.b.cU.set j y).eraseIdx i↔t∈x.b.cU.set j y/\t≠dH x.b.cU i:=λt=>by rw[R.erase jH,F];rfl
 have l:=(kr f).1;have F:y≠dH x.b.cU i:=λe=>r (G.inc.at b.1 f (G.inc.inj g l (by rw[<-e,z])));have d:∀t∈x.b.cU,t≠dH x.b.cU i->∃u∈(x.b.cU.set j y).eraseIdx i,u.id=t.id/\dK u=dK t/\u.dz=t.dz/\u.cO=t.cO/\u.blocks=t.blocks:=λt N o=>by by_cases e:t=dH x.b.cU j;subst e;exact⟨y,(B y).2 ⟨(G.inc.set f y).2 ax,F⟩,z,Y,Z,J,V⟩;exact⟨t,(B t).2 ⟨(G.inc.set f t).2 (.inl ⟨N,e⟩),o⟩,ae,ae,ae,ae,ae⟩
 obtain⟨u,O,u1,u2,u3,u4,u5⟩:=d s M T;obtain⟨w,Q,F,X,_⟩:=d v p U;exact⟨u,O,w,Q,u3.trans I,X.trans m,by grind,u4.trans K,u5.trans L⟩
theorem ahA(G:Good x)(F:Fit x)(c:lI x.s.dv.nw)(f:gU x.s.cR)(o:Z7)(b:∀y∈o.data,y<256)(a:o.kind≠9)(h6:o.kind≠6)(g:o.kind=8->o.name≠iK++RJ++sn)(h:Aw x.b.cU iK sn cO n):Aw (sh x o).1.b.cU iK sn cO n:=by
 have H:=(YI G F c f o b a).1.1;have st:oC x.b.cU (sh x o).1.b.cU∨o.kind=8:=by
  unfold sh;simp only;split
  . exact .inl (wA λ_=>by
     unfold my pI;grind[Te,oC,rG])
  split
  . exact .inl (wA λ_=>by
     unfold mM;split
     . exact .refl _
     split
     . exact .refl _
     . next h1 _=>exact Oj G (G.JC cN).1 (G.JC cN).2 _)
  split
  . exact .inl (wA λ_=>by
     unfold rH;split
     . exact .refl _
     . next h1=>exact Oj G (G.JC cN).1 (G.JC cN).2 _)
  split
  . obtain⟨d,e,_⟩:=JM o.name o.n x;rw[e];exact .inl (.refl _)
  split
  . exact .inl (wA λ_=>by
     unfold vl;grind[YV,oC,rG])
  split
  . exact .inl (wA λ_=>by
     unfold qL pI;grind[Wk,oC,rG])
  split
  . exact .inl (wA λ_=>by
     grind[uC,oB,oM,vm,YW,oC])
  split
  . omega
  exact .inl (.refl _)
 rcases st with st|e8;exact h.ql G H st;(have e:(sh x o).1=(dX x (lf o.name)).1:=by grind[sh]);rw[e];unfold dX r9;split;exact h;split;exact h;grind[lf,eW,oB,oM,vm,Wl,ud,Tf]
def xH(D:Nat->cV)(cO:cQ)(i:Nat):cV:=D5 D (pt D cO (9+i))
theorem tN.block(G:Good x)(w:tN x d){s:du}(a:s∈x.b.cU)(i:Nat):xH d.nw s.cO i=xH x.s.dv.nw s.cO i:=by have p:=w.pt G a;grind[xH,D5]
theorem Y0{x:GT}{E:Nat->cV}(G:Good x)(same:∀a,4<=a->x.s.mp a≠1->E a=x.s.dv.nw a){s:du}(b:s∈x.b.cU)(i:Nat):xH E s.cO i=xH x.s.dv.nw s.cO i:=by
 have k:∀k,pt x.s.dv.nw s.cO k≠cY->E (pt x.s.dv.nw s.cO k).1=x.s.dv.nw (pt x.s.dv.nw s.cO k).1:=λk c=>by have:=G.tk _ ⟨s,k,b,c,ae⟩;exact amV
 have p:=((G.rd s b).congr k).2;grind[xH,D5]
structure SnI(iK zz:fM)(cO:cQ)(n:Nat)(B:Nat->cV)(z x:GT)(k:Nat):Prop where
 com:GO z k
 tz:fi z.b
 ok:KQ x k
 al:x.s.dv.al
 since:Eg z x
 hx:Aw x.b.cU iK zz cO n
 hz:Aw z.b.cU iK zz cO n
 bx:∀i,xH x.s.dv.nw cO i=B i
 bz:∀i,xH z.s.dv.nw cO i=B i
theorem Aw.block(G:Good x)(h:Aw x.b.cU iK zz cO n)(same:∀a,4<=a->x.s.mp a≠1->E a=x.s.dv.nw a)(i:Nat):xH E cO i=xH x.s.dv.nw cO i:=by obtain⟨s,f,v,g,b,c,d,rfl,e⟩:=h;grind[Y0]
def SnI.synced(ok:KQ x k)(e:x.s.dv.al)(b:k<=281474976710600)(a:lI x.s.dv.nw)(h:Aw x.b.cU iK zz cO n)(f:∀i,xH x.s.dv.nw cO i=B i)(ty:fi (dX x gD).1.b):
 SnI iK zz cO n B (dX x gD).1 (dX x gD).1 (k+1):=by
 have s:=afu (ok.ok e) b a;obtain⟨c,D,same⟩:=ok.sync b a s.1;have d:Aw (dX x gD).1.b.cU iK zz cO n:=by rw[D.b];exact h
 have by':=λi=>(h.block ok.ql same i).trans (f i);exact⟨c,ty,c.ok,s.2.1.inv.al,c.since,d,d,by',by'⟩
theorem Wr.same(w:Wr (λa=>x.s.mp a=1) x.s.dv d):∀a,4<=a->x.s.mp a≠1->d.nw a=x.s.dv.nw a:=λ_ _ h=>w.nw h
def SnI.ask(h:SnI iK zz cO n B z x k)(l:k<=281474976710600)(b:lI x.s.dv.nw)(d:gU x.s.cR)(o:Z7)(c:∀y∈o.data,y<256)(ty:fi (sh x o).1.b)(h6:o.kind≠6)(j:o.kind=8->o.name≠iK++RJ++zz):
 ∃m,SnI iK zz cO n B m (sh x o).1 (k+1):=by by_cases a:o.kind=9;rw[V3 x a] at ty|-;exact⟨_,.synced h.ok h.al l b h.hx h.bx ty⟩;obtain⟨e,p,f⟩:=h.ok.ask b d o c a;have g:=(YI h.ok.ql h.ok.fit b d o c a).1;exact⟨z,h.com.le (yr _),h.tz,e,g.2.al h.al,f z h.since,ahA h.ok.ql h.ok.fit b d o c a h6 j h.hx,h.hz,λi=>(h.hx.block h.ok.ql g.2.same i).trans (h.bx i),h.bz⟩
def SnI.Wi(h:SnI iK zz cO n B z x k)(m:k<=281474976710600)(eS:List Bool):
 ∃y,lZ (lU x.s.dv eS)=(y,0)/\SnI iK zz cO n B y y k/\y.s.dv.n=x.s.dv.n:=by have w:=KP h.com.calm h.since.wr eS;obtain⟨g,d⟩:=Cv x.s.dv eS;obtain⟨e,j,b,o,c⟩:=h.com.Wi m h.tz.parts w g d.1;have f:Aw (asked z e).b.cU iK zz cO n:=h.hz;have by':∀i,xH e.nw cO i=B i:=λi=>(h.hz.block h.com.ok.ql (λa _ l=>(b.nw id).trans (w.nw a l)) i).trans (h.bz i);exact⟨asked z e,j,⟨c,h.tz,c.ok,b.al d,c.since,f,f,by',by'⟩,b.n⟩
def SnI.dev(h:SnI iK zz cO n B z x k)(w:∀A,Wr A x.s.dv d):SnI iK zz cO n B z (asked x d) k:=by have a:tN x d:=(w _).agree;exact⟨h.com,h.tz,h.ok.agree a ((w λ_=>True).set h.ok.set),(w λ_=>True).al h.al,⟨h.since.wr.trans (w _),h.since.keeps.agree h.ok.ql a⟩,h.hx,h.hz,λi=>(h.hx.block h.ok.ql (λa _ _=>(w λ_=>False).nw id) i).trans (h.bx i),h.bz⟩
def acA(n:Int)(hn:eT n)(l:List JK)(ao:Option Addr)(cap:Nat)(w:cS)(R:afH w (bX ao l.n cap) l):
 sW 6 #[bU cq n,bX ao l.n cap] w (bZ cx):=by
 have C9:=cz acv;have t:=cz (Wc n hn);have S:=qP w;by_cases h1:64<=n/\n<=400;case neg=>simp only[cX h1] at t;clear h1 R;go_enter func6,ntmps6;go_wp2_with (first|(go_at_call 9;refine je S (C9.o _) λW S=>?_)|(go_at_call 10;refine je S (t.o _) λW S=>?_));go_ret;exact az
 simp only[c8 h1] at t;have FC:=acy (n:=n.m) cN;have O:=NF (kA n.m);obtain⟨x1,c1⟩:=dG ((jJ (kA n.m)).1);rw[c1] at t O FC;have HI:=cz (show Wj x1 2/\tj x1 20000 from⟨FC.au O.text,O.le an5⟩);have HL:=cz R.op;have c7:=cz R.dat;have d2:=cz R.kep;obtain⟨TO,a7⟩:=R.row;have d4:=cz a7;obtain⟨e3,e1,he,e2,a5⟩:=dQ a7;simp only[lX] at he;obtain⟨rfl,-,rfl⟩:=he;have a5:=cz a5;clear h1 FC O c1 R a7;by_cases h2:l.n<=60;case neg=>have g2:decide ((60:Int)<(l.n:Int))=cx:=gI cN;clear h2;go_enter func6,ntmps6;go_wp2_with (first|(go_at_call 9;refine je S (C9.o _) λW S=>?_)|(go_at_call 10;refine(t.o _).mono ?_;rintro e W ⟨K,D,rfl,N⟩;replace S:=S.YO N eQ eQ;clear N));go_ret;exact az
 have g2:decide ((60:Int)<(l.n:Int))=cy:=jC cN;go_enter func6,ntmps6;go_upto_region 7 with(first|(go_at_call 9;refine je S (C9.o _) λW S=>?_)|(go_at_call 10;refine(t.o _).mono ?_;rintro e W ⟨K,D,rfl,N⟩;have Y:=cz (ik S.fr.size N.new);replace S:=S.YO N eQ eQ;clear N));clear C9 t;go_loopw [5,31] (λpv i wr=>∃(k K':Nat)(x:GT),k<=l.n/\pv=bW (cu ⟨K',0,cw⟩)/\i=bU cq k/\Hid ((Wj x (2+k)/\tj x (20000+k*10000000))/\w.h.s<=K'/\St w cw [] [] [] (MU w.h.s D (Lb K' D x)) wr)) (λ_ i _=>l.n-(intOf i).m);exact⟨0,K,x1,gG _,ae,ae,cz ⟨by simpa using HI.o,Y.o,S⟩⟩;clear S HI Y;obtain⟨k,K',x,hk,rfl,rfl,hS⟩:=hrel;have HJ:=cz hS.o.1;have Y:=cz hS.o.2.1;have S:=hS.o.2.2;clear hS;by_cases d9:k<l.n
 . obtain⟨b,lo,rfl⟩:=a5.o cN;obtain⟨o,hx⟩:∃o,l[k]?=cu o:=⟨_,jG d9⟩;have q:=HL.o o (lu hx);obtain⟨TD,b6⟩:=c7.o o (lu hx);obtain⟨TK,b7⟩:=d2.o o (lu hx);obtain⟨A,hA⟩:=fU (cM 6 (opF o));have b5:=cz (show A.s=6/\∀i,i<6->(opC l)[k*6+i]?=A[i]? from⟨by rw[hA,cW],λi hi=>by
    unfold opC;rw[flat_get SY l (oF.1 hx).1 hi,(oF.1 hx).2];unfold opE;rw[nL,hA]⟩)
   have HA:=cz hA;have d3:=cz b7;have c9:=cz q;have e4:=q.eS;have E:=S.x.1.at.facts;have ha:=HJ.o.1.ask cN E.1.nw E.2 HJ.o.2.text o.toZ7 q.byte (afr HJ.o.2 E.1 E.2 o.toZ7).text;have N:=afr HJ.o.2 E.1 E.2 o.toZ7;have Z:=cz λW(X:fJ W K' D x)(s:dS w W)(F:∀k∈oT W D,w.h.s<=k)=>aja K' D x (HJ.o.2.ok cN) o A hA q.name q.toN q.data W X TD (λW' f=>b6.iW s f F (λk hk=>(fS.1 hk▸Y.o:w.h.s<=k))) q.byte;obtain⟨⟨y,s9,c⟩,hy⟩:∃T,sh x o.toZ7=T:=⟨_,ae⟩;rw[hy] at ha N Z;simp only at ha N Z;have I:=cz (show Wj y (2+(k+1))/\tj y (20000+k*10000000+20000) from⟨ha.1,N⟩);have d5:=cz (show o.toZ7.kind=9->c=0->GO y (2+(k+1))/\y.s.dv.df=cy from ha.2);clear hx q hA E hy b6 b7 ha N;go_upto_region 10 with(first|((with_reducible refine aQ_ ?_);refine CB (d4.o.cP S.b) (j:=k) cN b5.o.1 b5.o.2 ?_)|(go_at_call 11;refine(Z.o _ S.x.1.at S.b (λk hk=>(S.x.2 k hk).1)).mono ?_;rintro e W ⟨⟨B,s8,rfl,hB⟩,hp,m⟩;have HB:=cz hB;replace S:=S.wQ hp m (λk hk=>.inr (fS.1 hk▸Y.o)) eQ eQ;clear hB hp m)|refine fO ?_|refine fu λW S=>?_);have Q:=cz S.x.1.at.facts;by_cases H:o.kind=10;(case pos=>have d6:(o.kind==10)=cx:=wX.2 H;have c5:=cz λW(X:iQ W D y.s.dv)=>V1 D y.s.dv o.n c9.o.n [] W X;have V:=cz (show Wj (asked y (xU y.s.dv o.n)) (2+(k+1))/\tj (asked y (xU y.s.dv o.n)) (20000+(k+1)*10000000) from⟨I.o.1.brk _,I.o.2.text,I.o.2.qD,ik I.o.2.ops cN⟩);clear H;go_wp2_with (first|(with_reducible first|refine jl 43 3 42 S 1 0 (bU cq o.kind) ?_|refine jl 47 3 46 S 1 3 (bU cq o.n) ?_)|(go_at_call 21;refine aj (c5.o _ S.x.1.at.dev) λW⟨F,m⟩=>?_;have C:=S.x.1.at.asked F m;replace S:=S.wQ C m eQ eQ eQ;clear F m C));go_roundw;exact⟨k+1,K',_,cN,ae,by go_num,cz ⟨V.o,Y.o,S.pop.pop⟩⟩;simp[intOf];omega);have d6:(o.kind==10)=cy:=lr.2 H;by_cases J:o.kind=11
   case pos=>
    have d7:(o.kind==11)=cx:=wX.2 J;obtain⟨z,c2,a8,c3⟩:=I.o.1.Wi o.eS;obtain⟨e,v,r,f1,f2,f3,f4,f5⟩:=c2.opened cN a8 c3 (Cv _ _).1 (Cv y.s.dv o.eS).2.1;have a:=Gz (lU y.s.dv o.eS) (Oa Q.o.1 o.eS);rw[f1] at a;have a:=a.le (M:=20000+k*10000000+40004) (by have:=I.o.2.ops;show y.s.dv.ops+20004<=_;omega);have V:=cz (show Wj (asked z v) (2+(k+1))/\tj (asked z v) (20000+(k+1)*10000000) from⟨f5.au a8,by
     have:=a.walked (d:=e) (by rw[f2];exact Oa Q.o.1 o.eS) a.ops;rw[f3] at this;exact this.le cN⟩)
    have c4:=cz λW v(X:iQ W D y.s.dv)hv=>KK D y.s.dv (by have:=I.o.2.ops;omega) v o.eS [] W X hv;have a1:=cz λW(X:iQ W D (lU y.s.dv o.eS))=>(by have:=Cn D _ W X;rw[f1] at this;exact this:CP_ 17 #[bW (cu ⟨D,0,cw⟩)] W λp w'=>∃v,p=cj (cg #[v,bU cq 0])/\IE w' W.h.s D (asked z e) 0 v/\Fr (cu D) [] W w');have a2:=cz λW(X:iQ W D e)=>(by have:=IV D e W X;rw[f3] at this;simp only[f4,decide_true,Bool.and_true] at this;exact this:CP_ 20 #[bW (cu ⟨D,0,cw⟩)] W λp w'=>p=cj (bZ cx)/\iQ w' D v/\Fr (cu D) [] W w');clear H J f1 f2 f3 f4 f5 a c2 a8 c3
    go_wp2_with first|(with_reducible first|refine jl 43 3 42 S 1 0 (bU cq o.kind) ?_|refine jl 51 3 50 S 1 0 (bU cq o.kind) ?_|refine jl 56 39 55 S 1 5 (bX o.ka o.eS.n o.kc) ?_)|((with_reducible refine XF 54 39 0 ?_);refine bl0 S afn ae ae λg W S=>?_)|((with_reducible refine Uh 57 54 56 ?_);refine apQ S 0 ae ae ae (d3.o.cP S.b) afn (by intro u hu;unfold Ah at hu;obtain⟨_,_,rfl⟩:=gT.1 hu;rfl) CU xY λao c W S=>?_;rw[show(0+o.eS.n)=o.eS.n from pM _] at S|-;rw[show([]++Ah o.eS)=Ah o.eS from ae] at S)|(go_at_call 16;refine aj (c4.o _ _ S.x.1.at.dev S.q0) λW⟨F,m⟩=>?_;replace S:=S.Wb m eQ (gj D _) F;clear F m)|(go_at_call 17;refine ah (a1.o _ S.x.1) λu W⟨L,m⟩=>?_;obtain⟨K9,rfl,hK,C⟩:=L.1 ae;have d1:=cz (ik S.fr.size hK);replace S:=S.wQ C m eQ eQ eQ;clear L m hK C)|(go_at_call 20;refine aj (a2.o _ S.x.1.at.dev) λW⟨F,m⟩=>?_;have C:=S.x.1.at.asked F m;replace S:=S.wQ C m eQ eQ eQ;clear F m C)
    go_roundw
    case rel=>exact⟨k+1,K9,_,cN,ae,by go_num,cz ⟨V.o,d1.o,S.pop.pop.KY⟩⟩
    case measure=>simp[intOf];omega
   have d7:(o.kind==11)=cy:=lr.2 J;by_cases h9:o.kind=9/\c=0;(case pos=>have g9:(o.kind==9)=cx:=wX.2 h9.1;obtain⟨com,dd⟩:=d5.o h9.1 h9.2;obtain⟨-,rfl⟩:=h9;obtain⟨e,v,r,f1,f2,f3,f4,f5⟩:=com.opened cN I.o.2.text (d:=y.s.dv) ⟨ae,λ_ _=>ae⟩ com.calm dd;have a:=Gz y.s.dv Q.o.1.nw;rw[f1] at a;have a:=a.le (M:=20000+k*10000000+40004) (by have:=I.o.2.ops;omega);have a6:=a.walked (d:=e) (by rw[f2];exact Q.o.1.nw) a.ops;rw[f3] at a6;have V:=cz (show Wj (asked y v) (2+(k+1))/\tj (asked y v) (20000+(k+1)*10000000) from⟨f5.au I.o.2.text,a6.le cN⟩);have a1:=cz λW(X:iQ W D y.s.dv)=>(by have:=Cn D _ W X;rw[f1] at this;exact this:CP_ 17 #[bW (cu ⟨D,0,cw⟩)] W λp w'=>∃v,p=cj (cg #[v,bU cq 0])/\IE w' W.h.s D (asked y e) 0 v/\Fr (cu D) [] W w');have a2:=cz λW(X:iQ W D e)=>(by have:=IV D e W X;rw[f3] at this;simp only[f4,decide_true,Bool.and_true] at this;exact this:CP_ 20 #[bW (cu ⟨D,0,cw⟩)] W λp w'=>p=cj (bZ cx)/\iQ w' D v/\Fr (cu D) [] W w');obtain⟨rm,b8⟩:=dG (fI y.s.mp);have a9:=cz λK W(X:fJ W K D (asked y v))=>(by have:=V' K D (asked y v) W X;rw[show fI (asked y v).s.mp=rm from b8] at this;exact this:CP_ 18 #[bW (cu ⟨K,0,cw⟩)] W λe w'=>e=cj (bU cq rm)/\W=w');have b3:=cz λK W(X:fJ W K D (asked y v))=>Ta K D (asked y v) (V.o.2.ok cN) W X;obtain⟨tk,U⟩:=dG (kF y.s.mp 2);have b4:=cz λG g M W(X:dZ W G g D M (asked y v).s)=>(by have:=Ew M (asked y v).s.mp W X.kB.map;rw[show kF (asked y v).s.mp 2=tk from U] at this;exact this:CP_ 26 #[bW (cu ⟨M,0,cw⟩)] W λe w'=>∃r,e=cj r/\mT w' W.h.s r tk/\dS W w');have c6:=cz λW b1 b2 r2 r3(h2:mT W b1 r2 tk)(h3:mT W b2 r3 tk)=>(by have:=afI r2 r3 tk tk W (by rw[<-U] at h2|-;exact h2.sl) (by rw[<-U] at h3|-;exact h3.sl);rw[gI ae] at this;exact this:sW 22 #[r2,r3] W (bZ cx));clear H J f1 f2 f3 f4 f5 a a6 com dd U b8;go_wp2_with (first|(with_reducible first|refine jl 43 3 42 S 1 0 (bU cq o.kind) ?_|refine jl 51 3 50 S 1 0 (bU cq o.kind) ?_|refine jl 78 3 77 S 1 0 (bU cq o.kind) ?_)|(go_at_call 17;refine ah (a1.o _ S.x.1.at.dev) λu W⟨L,m⟩=>?_;obtain⟨K9,rfl,hK,C⟩:=L.1 ae;have hQ:fJ W K' D (asked y e):=S.x.1.at.asked C.dev m;replace S:=S.aaf C hQ m eQ eQ eQ;clear L m hK C hQ)|(go_at_call 20;refine aj (a2.o _ S.x.1.1.at.dev) λW⟨F,m⟩=>?_;have C:fJ W K9 D (asked y v):=S.x.1.1.at.asked F m;have hQ:fJ W K' D (asked y v):=S.x.1.2.at.asked F m;replace S:=S.aaf C hQ m eQ eQ eQ;clear F m C hQ)|(go_at_call_has 18 (Value.pointer (cu ⟨K9,0,cw⟩));go_must (refine(a9.o K9 _ S.x.1.1.at).mono ?_;rintro p W ⟨rfl,rfl⟩))|(go_at_call_has 18 (Value.pointer (cu ⟨K',0,cw⟩));go_must (refine(a9.o K' _ S.x.1.2.at).mono ?_;rintro p W ⟨rfl,rfl⟩))|(go_at_call_has 23 (Value.pointer (cu ⟨K9,0,cw⟩));go_must (refine(b3.o K9 _ S.x.1.1.at).mono ?_;rintro p W ⟨G2,g2,M2,rfl,L,s⟩;have a3:=cz L;replace S:=S.cP s;clear L s))|(go_at_call_has 23 (Value.pointer (cu ⟨K',0,cw⟩));go_must (refine(b3.o K' _ S.x.1.2.at).mono ?_;rintro p W ⟨G3,g3,M3,rfl,L,s⟩;have a4:=cz L;replace S:=S.cP s;clear L s))|(go_at_call_has 24 (Value.pointer (cu ⟨G3,0,cw⟩));go_must (refine(mL G3 D M3 g3 _ _ a4.o).mono ?_;rintro p W ⟨rfl,rfl⟩))|(go_at_call_has 24 (Value.pointer (cu ⟨G2,0,cw⟩));go_must (refine(mL G2 D M2 g2 _ _ a3.o).mono ?_;rintro p W ⟨rfl,rfl⟩))|(go_at_call_has 25 (Value.pointer (cu ⟨g3.P,0,cw⟩));go_must (refine(mD g3.P D M3 _ _ _ a4.o.kB.row).mono ?_;rintro p W ⟨rfl,rfl⟩))|(go_at_call_has 25 (Value.pointer (cu ⟨g2.P,0,cw⟩));go_must (refine(mD g2.P D M2 _ _ _ a3.o.kB.row).mono ?_;rintro p W ⟨rfl,rfl⟩))|(go_at_call_has 26 (Value.pointer (cu ⟨M3,0,cw⟩));go_must (refine ah (b4.o G3 g3 M3 _ a4.o) λr3 W⟨ho,s⟩=>?_;replace S:=S.iw s (show W.ownsRow _ 141 2 r3 tk.n (iP tk) from ho) ae ae;clear ho s))|(go_at_call_has 26 (Value.pointer (cu ⟨M2,0,cw⟩));go_must (refine ah (b4.o G2 g2 M2 _ a3.o) λr2 W⟨ho,s⟩=>?_;replace S:=S.iw s (show W.ownsRow _ 141 2 r2 tk.n (iP tk) from ho) ae ae;clear ho s))|(go_at_call 22;refine aj (c6.o _ _ _ _ _ S.o1 S.o0) λW s=>?_;replace S:=S.cP s;clear s));go_roundw;exact⟨k+1,K',asked y v,cN,ae,by go_num,cz ⟨V.o,Y.o,(S.pop.pop.KY.KY).EH (λB w h=>⟨h.1.2,h.2⟩) (uz (tQ K' D _))⟩⟩;simp[intOf];omega);(have g9:(o.kind==9&&c==0)=cy:=by rw[Bool.and_eq_false_iff,lr,lr];exact Classical.not_and_iff_not_or_not.1 h9);have V:=cz (show Wj y (2+(k+1))/\tj y (20000+(k+1)*10000000) from⟨I.o.1,I.o.2.le cN⟩);obtain⟨b9,d8⟩:=dG ((o.kind==9));rw[d8] at g9;clear h9 H J;cases b9;all_goals simp only[LC,Bool.false_and] at g9
   all_goals(
    go_wp2_with first|(with_reducible first|refine jl 43 3 42 S 1 0 (bU cq o.kind) ?_|refine jl 51 3 50 S 1 0 (bU cq o.kind) ?_|refine jl 78 3 77 S 1 0 (bU cq o.kind) ?_)
    go_roundw
    case rel=>exact⟨k+1,K',y,cN,ae,by go_num,cz ⟨V.o,Y.o,S.pop.pop⟩⟩
    case measure=>simp[intOf];omega
   )
 . obtain rfl:k=l.n:=cN;go_wp2;go_ret;exact az
section
open Go.Deep Go.ChangeShapes Go.WideShapes Go.ChangeAt
theorem kS{a b:Bool}(h:a=cx)(g:b=cx):(a&&b)=cx:=by grind
theorem own:ownKnob prog.godebug=cw:=dC
def laidOut:laidOutB prog=cx:=dC
def ajj:prog.cellsOf 5=1:=dC
def ahB:mapsRowed prog=cx:=dC
def ahC:(prog.stops==[])=cx:=dC
def ahD:(prog.stopKnobs==[])=cx:=dC
def ahE:prog.stopsHeard=cx:=dC
def ahF:prog.mayEnter=cx:=dC
theorem ahG:prog.liftsFinal=cy:=dC
def ajk:(prog.make==cu .cut)=cx:=dC
end
section
open Go.Deep Go.ChangeShapes Go.WideShapes Go.ChangeAt
section
variable {enc:dW×c7->H}
theorem ahH{a:Addr}{u:c7}(h:w.cell? a=cu u):∃cs T b,w.h[a.block]?=cu (.cells cs T b)/\cs[a.off]?=cu u/\a.spot=cw:=by grind[World.cell?_spot,World.cell?]
theorem JQ{t e:dW}{z:Nat}(hu:prog.underlying t=some (.slice e))(hz:prog.cellsOf e=z)(M:0<z)(cells:α->List c7)(hk:∀a,(cells a).length=z)(Q:α->DataW H->Prop)(hE:∀cs n D Pl,DataW.trod enc prog w base spare dI n e cs=some (D,Pl)->∃a,cs=cells a/\Q a D){v:c7}{d:DataW H}{p:List MemPlace}(h:DataW.trod enc prog w base spare dI fuel t [v]=some (d,p)):
 ∃(l:List α)(ao:Option Addr)(cap:Nat),v=.slice ao l.length cap/\(∃T,dg w T z v l.length (l.flatMap cells))/\(∀a∈l,∃g Z D,d=.slice g Z/\D∈g/\g.length=l.length/\Q a D):=by
 rcases open_slice hu h with⟨J,Y⟩|⟨x,c,cap,m,n,D,Pl,J,_,R,U,a4,Y,A⟩
 . obtain rfl:v=.slice none 0 0:=by grind
   exact⟨[],none,0,ae,⟨0,by simp,none,0,ae,eN _,gG _,λh=>absurd h (ug _)⟩,λa h=>absurd h jL⟩
 . obtain rfl:v=.slice (some x) c cap:=by grind
   have a3:c<=m:=by grind
   rw[hz] at A;have O:∀i:Fin c,∃a,(∀j,j<z->w.cell? (x.add (i.val*z+j))=(cells a)[j]?)/\Q a (D i.val):=by
    intro i;obtain⟨F,hc,ht⟩:=A i.val cN;obtain⟨a,rfl,V⟩:=hE _ _ _ _ ht;obtain⟨_,_,a2⟩:=World.cells?_some hc
    grind[add_add]
   have ea:∀k,(x.add k).block=x.block/\(x.add k).off=x.off+k/\(k=0->x.add k=x):=λk=>by grind[Addr.add]
   let f:Fin c->α:=λi=>Classical.choose (O i)
   have hf:∀i,(∀j,j<z->w.cell? (x.add (i.val*z+j))=(cells (f i))[j]?)/\Q (f i) (D i.val):=λi=>Classical.choose_spec (O i);have q:(ofFn f).length=c:=length_ofFn;refine⟨ofFn f,some x,cap,by rw[q],?_,?_⟩
   . rw[q];rcases vM c with h0|h0
     . subst h0;exact⟨0,by simp,some x,cap,ae,R,U,λh=>absurd h (ug _)⟩
     . have r:∀i(K:i<c)j(E:j<z),∃cs T I,w.heap[x.block]?=some (.cells cs T I)/\cs[x.off+(i*z+j)]?=(cells (f ⟨i,K⟩))[j]?/\(i*z+j=0->x.spot=none):=λi K j E=>by
        have h1:=(hf ⟨i,K⟩).1 j E
        grind[ahH]
       obtain⟨cs,T,I,G,_,C⟩:=r 0 h0 0 M;obtain⟨b,o,Z⟩:=x;have C:=C eQ;simp only at G C r;subst C;refine⟨T,by grind[xp],s_ b o,cap,ae,R,U,λ_=>⟨b,o,cs,I,ae,G,λj u E=>?_⟩⟩;have L:j<c*z:=by grind[xp]
       have V:j/z<c:=(div_lt_iff_lt_mul M).2 L;have X:j%z<z:=mod_lt _ M;have B:j/z*z+j%z=j:=by grind[div_add_mod]
       obtain⟨F,T',a1,s,y,_⟩:=r (j/z) V (j%z) X;rw[G] at s;cases s;rw[B] at y;have N:=flat_get hk (ofFn f) (i:=j/z) cN X;rw[B,E] at N;rw[y,N];simp
   . intro a ha;obtain⟨i,rfl⟩:=List.mem_ofFn.1 ha;cases Y<;>grind
theorem Wm{α β:Type}(g:α->β)(l:List α):l.flatMap (λa=> [g a])=l.map g:=by induction l<;>simp_all
theorem acB{t:dW}(i:prog.underlying t=cu (.slice 5)){v:c7}{d:DataW H}{p:List MemPlace}(h:DataW.trod enc prog w base spare dI fuel t [v]=cu (d,p)):
 ∃(l:cV)(c:Option Addr)(cap:Nat),v=bX c l.n cap/\(∃T,dg w T 1 v l.n (eo l))/\(∀y∈l,y<256)/\((∀n∈d.weights prog t,n<=reachBytes)->l.n<=140737488351232):=by
 obtain⟨l,c,cap,e,⟨T,R⟩,g⟩:=JQ i ajj kM (λ(a:Nat)=> [Value.int .u8 (a:Int)]) (λ_=>ae) (λa _=>a<256) (λcs n D Pl h=>by
  obtain⟨y,rfl,_,f⟩:=DataW.trod_int yN h;have o:IntKind.u8.min=0:=rfl;have q:IntKind.u8.max=255:=rfl;simp[Lit.wf] at f;exact⟨y.m,by grind,cN⟩) h
 refine⟨l,c,cap,e,⟨T,by grind[eo,Wm]⟩,λy k=>(g y k).choose_spec.choose_spec.choose_spec.2.2.2,λf=>?_⟩;rcases l with _|⟨a,l⟩;grind;obtain⟨b,m,D,rfl,_,j,_⟩:=g a nB;have:=f ((b.n+m.n)*prog.bytesOf 5) (by simp[DataW.weights,i]);rw[show prog.bytesOf 5=1 from by kernel_rfl,j] at this;grind[reachBytes]
theorem acC{t:dW}(f:prog.underlying t=cu (.slice 4)){v:c7}{d:DataW H}{p:List MemPlace}(h:DataW.trod enc prog w base spare dI fuel t [v]=cu (d,p)):
 ∃(l:List Bool)(c:Option Addr)(cap:Nat),v=bX c l.n cap/\(∃T,dg w T 1 v l.n (Ah l))/\((∀n∈d.weights prog t,n<=reachBytes)->l.n<=140737488351232):=by
 obtain⟨l,c,cap,e,⟨T,R⟩,i⟩:=JQ f (show prog.cellsOf 4=1 from by kernel_rfl) kM (λ(a:Bool)=> [Value.bool a]) (λ_=>ae) (λ_ _=>True) (λcs n D Pl h=>by
  obtain⟨y,rfl,_⟩:=DataW.trod_bool underlying4 h
  grind) h
 refine⟨l,c,cap,e,⟨T,by grind[Ah,Wm]⟩,λj=>?_⟩;rcases l with _|⟨a,l⟩;grind;obtain⟨b,k,D,rfl,_,g,_⟩:=i a nB;have:=j ((b.n+k.n)*prog.bytesOf 4) (by simp[DataW.weights,f]);rw[show prog.bytesOf 4=1 from by kernel_rfl,g] at this;grind[reachBytes]
def alq{x:Int}(h:(Lit.int cq x).wf=cx):eT x:=by have a:IntKind.i64.min= -9223372036854775808:=rfl;have b:IntKind.i64.max=9223372036854775807:=rfl;simp[Lit.wf] at h;unfold eT;omega
theorem KS{P:oN}{e:dW}:∀{l:List (DataW H)}{D:DataW H},D∈l->∀n∈D.weights P e,n∈DataW.weightsAll P e l
 |d::l,D,h,n,hn=>by
  unfold DataW.weightsAll;rcases iX.1 h with rfl|h
  . grind
  . exact FT _ (KS h n hn)
def afS:prog.cellsOf 3=1/\prog.cellsOf 9=1/\prog.cellsOf 22=1/\prog.cellsOf 39=1/\prog.cellsOf 41=6:=⟨dC,by kernel_rfl,by kernel_rfl,by kernel_rfl,dC⟩
structure OpQ(w:cS)(x:JK)(D:DataW H):Prop where
 dat:∃T,dg w T 1 (bX x.da x.data.n x.dc) x.data.n (eo x.data)
 kep:∃T,dg w T 1 (bX x.ka x.eS.n x.kc) x.eS.n (Ah x.eS)
 op:(∀n∈D.weights prog 41,n<=reachBytes)->akG x
def ahI{D:DataW H}{Pl:List MemPlace}(h:DataW.trod enc prog w base spare dI n 41 cs=some (D,Pl)):∃x:JK,cs=opE x/\OpQ w x D:=by
 obtain⟨X,Y,u,v,y⟩:=afS;obtain⟨xs,m,_,V,g,i,a⟩:=DataW.trod_struct underlying41 h;rw[y] at g
 match cs,g with
 | [c0,c1,c2,c3,c4,c5],_=>
 match xs,i with
 | [y0,y1,y2,y3,y4,y5],_=>
  have B:=a 0 _ ae;have C:=a 1 _ ae;have E:=a 2 _ ae;have F:=a 3 _ ae;have G:=a 4 _ ae;have I:=a 5 _ ae;simp only[X,Y,u,v,drop_zero,drop_succ_cons,take_succ_cons,take_zero,getElem?_cons_zero,getElem?_cons_succ] at B C E F G I;obtain⟨p,L,x0,_⟩:=DataW.trod_int vR B;obtain⟨b,M,x1,_⟩:=DataW.trod_string yV C;obtain⟨c,N,x2,_⟩:=DataW.trod_string yV E;obtain⟨q,O,x3,w3⟩:=DataW.trod_int vR F;obtain⟨z,p4⟩:=y4;obtain⟨A,p5⟩:=y5;obtain⟨Z,r,e,Q,R4,K,w4⟩:=acB oS G;obtain⟨l5,s,f,R,J,w5⟩:=acC underlying39 I;cases L;cases M;cases N;cases O;subst Q R x0 x1 x2 x3;cases V;have o:∀{j t}{d:DataW H},([3,9,9,3,22,39]:List dW)[j]?=some t->([.lit (.int .i64 p),.lit (.string b.data.toList),.lit (.string c.data.toList),.lit (.int .i64 q),z,A]:List (DataW H))[j]?=some d->∀n∈d.weights prog t,n∈(DataW.agg [.lit (.int .i64 p),.lit (.string b.data.toList),.lit (.string c.data.toList),.lit (.int .i64 q),z,A]:DataW H).weights prog 41:=λT U n k=>by
   unfold DataW.weights;rw[underlying41];exact DataW.weights_mem_each T U n k
  refine⟨⟨⟨p,b,c,q,Z,l5⟩,r,e,s,f⟩,ae,R4,J,λl=>⟨?_,?_,?_,?_,alq w3,K⟩⟩
  . have:=l _ (o (j:=1) ae ae b.data.toList.length (by simp[DataW.weights]));unfold reachBytes at this;show b.size<=_;simp at this;omega
  . have:=l _ (o (j:=2) ae ae c.data.toList.length (by simp[DataW.weights]));unfold reachBytes at this;show c.size<=_;simp at this;omega
  . exact w4 λn k=>l n (o (j:=4) ae ae n k)
  . exact w5 λn k=>l n (o (j:=5) ae ae n k)
theorem ahJ{v:c7}{d:DataW H}{p:List MemPlace}(h:DataW.trod enc prog w base spare dI fuel 30 [v]=cu (d,p))(g:∀n∈d.weights prog 30,n<=reachBytes):
 ∃(l:List JK)(b:Option Addr)(cap:Nat),v=bX b l.n cap/\afH w v l:=by obtain⟨l,b,cap,e,R,f⟩:=JQ underlying30 afS.2.2.2.2 kM opE SY (OpQ w) (λcs n D Pl h=>ahI h) h;refine⟨l,b,cap,e,⟨R,λx a=>?_,λx a=>?_,λx a=>?_⟩⟩;obtain⟨_,_,D,_,_,_,q⟩:=f x a;exact q.dat;obtain⟨_,_,D,_,_,_,q⟩:=f x a;exact q.kep;obtain⟨c,k,D,rfl,i,_,q⟩:=f x a;refine q.op λn j=>g n ?_;grind[DataW.weights,underlying30,KS]
end
end
section
open Go.Deep Go.ChangeShapes Go.WideShapes Go.ChangeAt
theorem akH{x:Int}(h:(Lit.int cq x).wf=cx):eT x:=by have a:IntKind.i64.min= -9223372036854775808:=rfl;have b:IntKind.i64.max=9223372036854775807:=rfl;grind[Lit.wf,eT]
theorem IX(os:Os)(c:os.Started)(H:Type)(enc:dW×c7->H):
 ReturnsInHanded {} checked os 6 .any (Rows.wholeAuditSpec.pre6 enc prog f6 Rows.wholeAuditRow.domain cy) (Rows.wholeAuditSpec.post enc prog f6 cy cx cy cy):=by
 refine returnsInHanded_of_change_sized (C:=checked) own c amM func6
  (ChangeSpec.witness6 (enc:=enc) (C:=checked) cy ⟨#[],#[bU cq 0,bX cw 0 0],[]⟩ 8 nF nF amM nF) ?_
 intro W base args w O i b A B d _;have g:(DataW.weightsEach prog (f6.params.t++Rows.wholeAuditSpec.plain.varTypes prog) (w++O)).all (·<=reachBytes)=cx:=d;clear d;have a:∀(j:Nat)t v,f6.params[j]?=cu t->args[j]?=cu v->Value.okWide prog W .any base t v:=b;have l:=A;obtain⟨p,q,f,R,rfl,T,X⟩:=A;have z:DataW.TrodAll enc prog W 0 (λ_=>cx) cx f6.params.t args.t w p:=f;rw[params6] at z a g;obtain⟨F,G,G,L,G,G,o,rfl,rfl,Q,I⟩:=trodAll_cons z;obtain⟨G,J,J,M,Z,J,rfl,rfl,rfl,y,J⟩:=trodAll_cons I;obtain⟨rfl,rfl,rfl⟩:=trodAll_nil J;obtain rfl:args=#[F,G]:=by grind
 obtain⟨rfl,rfl⟩:=trodVars_none R;obtain⟨J,rfl,rfl,rfl,w0⟩:=open_int vR (a 0 3 F ae ae) Q;obtain⟨F,E,F,rfl⟩:=okWide_slice underlying30 (a 1 30 G ae ae);have D:=y;have s:∀x∈Z,x.block<W.h.s:=by obtain⟨m,U⟩:=D;exact DataW.trod_lt m _ _ _ U
 obtain⟨k,r⟩:=y;obtain⟨Y,K,u,N,I⟩:=ahJ r (λn V=>by simpa using rJ.1 g n (DataW.weights_mem_each (j:=1) ae ae n V));cases N;clear f b;refine(acA J (akH w0) Y _ _ W I).mono λe W' ⟨he,bel⟩=>?_;subst he;exact⟨_,ae,_,_,_,[],_,[],l,trodAll_mk1 (shut_bool underlying4 _),(trodAll_cons_mk (shut_int vR w0) (trodAll_cons_mk (Below.trod laidOut nF (mj nF) D bel s) trodAll_mk0)),ae,bel.frame _,λh=>by cases h⟩
def IY:joinedFacts prog 6 f6 Rows.wholeAuditSpec Rows.wholeAuditRow=true:=(kS (kS (kS (kS (kS (kS (kS (kS (kS (kS (kS (kS (kS (kS (kS (kS (kS (kS (kS (kS (kS (kS (kS (kS (kS (kS (kS (kS (kS (kS (kS dC laidOut) ahB) dC) dC) dC) ahC) dC) ahD) dC) dC) dC) dC) dC) dC) dC) dC) dC) dC) dC) dC) dC) dC) dC) ahE) ahF) (by show(false==prog.liftsFinal)=true;rw[ahG];rfl)) ajk) dC) dC) dC) dC)
theorem wholeAudit_holds:Rows.WholeAuditSaid:=
 OpenClaim.holds_of_wide 6 f6 ae ae ae ae ae ae ae ⟨ae,ae,ae,ae,ae⟩ ae ae ae ae ae amM func6 IY
  (mj dC) (by unfold Func.isWrapper;first|(rw[cX dk_];exact aE))
  (λos a H enc _=>IX os a H enc)
end
end Go.Proofs.YtklligbjoplbgaaGreat